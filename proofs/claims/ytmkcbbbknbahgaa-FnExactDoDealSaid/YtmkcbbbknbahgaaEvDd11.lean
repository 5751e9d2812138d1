/- FnExactDoDeal returns true for every argument, and its arguments read as they did. No conditions. -/
import Derived.Below
import Derived.ChangeArms
import Derived.ChangeOld
import Derived.DataReads
import Derived.KernelRfl
import Derived.Laws.AppendOwn
import Derived.Laws.BytesArg
import Derived.Laws.BytesString
import Derived.Laws.CopyRow
import Derived.Laws.Entries
import Derived.Laws.IdiomCopy
import Derived.Laws.MakeOwn
import Derived.Laws.OwnMore
import Derived.OpenShut
import Derived.Orders
import Derived.ProofKit
import Derived.ShutString
import Derived.SizedLaws
import Derived.Test.YtmkcbbbknbahgaaProg
import Derived.Test.YtmkcbbbknbahgaaRows
import Derived.WalkKit
import Derived.Test.YtmkcbbbknbahgaaEvDd10
set_option linter.unusedVariables false
set_option linter.unusedSimpArgs false
namespace Go.Ev
open Go Go.RowKit Go.Proofs

theorem c141s (d : Dk) (x : Dl) (d' : Dk) (hd : okD d = true) (he : doD d x = some d') : GoodR Try.prog 141 [.ptr (0, none) 0 0, eDl x] [⟨116, 3, [[.ref (1, none) 0 d.m.length, .ref (2, none) 0 d.ws.length, vi d.k]]⟩, rM d.m, rWS d.ws] (vb true) [some ⟨116, 3, [[.ref (3, none) 0 d'.m.length, .ref (4, none) 0 d'.ws.length, vi d'.k]]⟩, none, none, some (rM d'.m), some (rWS d'.ws)] := by
  have h := c141 d x hd
  rw [he] at h
  exact h
theorem c141n (d : Dk) (x : Dl) (hd : okD d = true) (he : doD d x = none) : GoodR Try.prog 141 [.ptr (0, none) 0 0, eDl x] [⟨116, 3, [[.ref (1, none) 0 d.m.length, .ref (2, none) 0 d.ws.length, vi d.k]]⟩, rM d.m, rWS d.ws] (vb false) [none, none, none] := by
  have h := c141 d x hd
  rw [he] at h
  exact h
/-- A deal on a desk. -/
def dealO (d : Dk) (x : Dl) : Option Dk := if okD d = true then doD d x else none
theorem dealO_ok {d : Dk} {x : Dl} (h : okD d = true) : dealO d x = doD d x := if_pos h
theorem dealO_no {d : Dk} {x : Dl} (h : okD d = false) : dealO d x = none := if_neg (by rw [h]; decide)
theorem dealO_g (d : Dk) (x : Dl) : GM (uD (dealO d x)).m ∧ (uD (dealO d x)).ws.length ≤ 8 := by
  unfold dealO
  split
  · unfold doD
    split
    · rename_i h
      exact ⟨okD_g h.2, by have := (okD_r h.2).2.1; simp only [uD, Option.getD_some]; omega⟩
    · exact ⟨GM.nil, Nat.zero_le _⟩
  · exact ⟨GM.nil, Nat.zero_le _⟩

theorem c70 (d : Dk) (x : Dl) (hl1 : d.m.length ≤ 1048576) (hl2 : ∀ r, r ∈ d.m → r.length ≤ 1048576) (hw : d.ws.length ≤ 1048576) : Good Try.prog 70 [eD d, eDl x] (.tup [oD 0 (uD (dealO d x)), vb (dealO d x).isSome]) [rM (uD (dealO d x)).m, rWS (uD (dealO d x)).ws] := by
  refine good_of (E := En 15) (fn := Try.f70) (by kernel_rfl) (by kernel_rfl) rfl rfl (by simp only [List.length_cons, List.length_nil]; decide) (fun C0 => ?_)
  simp only [argT, Nat.reduceAdd, eB, eM, eWS]
  refine ev_seq fun K1 h1 => ?_
  refine ev_rf mB ?_
  iterate 4 refine dr_act wN mb ma mc mT mR ?_
  refine dr_nil (h1 _ ?_); clear h1
  refine ev_seq fun K1 h1 => ?_
  refine ev_seq fun K2 h2 => ?_
  refine ev_rf mB ?_
  refine dr_act wN mb ma mc mT mR ?_
  refine dr_callF wN mr mb mx mr (c137 d mh mh mh) (Nat.le_of_ble_eq_true rfl) mv mT mN ?_
  refine dr_act wN mb ma mc mT mR ?_
  refine dr_nil (h2 _ ?_); clear h2
  cases hc1 : (okD d)
  · refine ev_cond true mlq (fun hz => ?_) (fun hz => by cases hz)
    refine ev_seq fun K2 h2 => ?_
    refine ev_rf mB ?_
    iterate 3 refine dr_act wN mb ma mc mT mR ?_
    refine dr_nil (h2 _ ?_); clear h2
    refine ev_weak (weak_nil 16 0 0 29 1 mr mr mr mNl (by decide : 80 < 88)) ?_
    refine ev_weak (weak_nil 16 0 1 32 4 mr mr mr mNl (by decide : 88 < 96)) ?_
    refine ev_ret ?_
    rw [dealO_no (by assumption)]
    exact retL [80, 88] (res' := [.cell 4 116, .tmp 5]) mr (.cell nT mZ ma mc mP (.tmp nT mL .nil)) rfl mr (by decide) ⟨⟨mr, rfl⟩, ⟨mr, rfl⟩, trivial⟩
  refine ev_cond false mlq (fun hz => by cases hz) (fun hz => ?_)
  refine ev_skip (h1 _ ?_); clear h1
  refine ev_seq fun K1 h1 => ?_
  refine ev_rf mB ?_
  iterate 2 refine dr_act wN mb ma mc mT mR ?_
  refine dr_callF wN mr mb mx mr (c138 d x mh) (Nat.le_of_ble_eq_true rfl) mv mT mN ?_
  iterate 4 refine dr_act wN mb ma mc mT mR ?_
  refine dr_nil (h1 _ ?_); clear h1
  refine ev_ret ?_
  rw [dealO_ok (by assumption)]
  exact retL [72, 73] (res' := [.cell 4 116, .tmp 5]) mr (.cell nT mZ ma mc mP (.tmp nT mL .nil)) rfl mr (by decide) ⟨⟨mr, (pure_map fun _ => by first | rfl | simp [pcell])⟩, ⟨mr, (pure_map fun _ => by first | rfl | simp [pcell])⟩, trivial⟩

theorem c73f (d : Dk) (x : Dl) (hl1 : d.m.length ≤ 1048576) (hl2 : ∀ r, r ∈ d.m → r.length ≤ 1048576) (hw : d.ws.length ≤ 1048576) (hk : okD d = false) : Good Try.prog 73 [eD d, eDl x] (.tup [oD 0 ⟨[], [], 0⟩, vb false]) [rM [], rWS []] := by
  refine good_of (E := En 18) (fn := Try.f73) (by kernel_rfl) (by kernel_rfl) rfl rfl (by simp only [List.length_cons, List.length_nil]; decide) (fun C0 => ?_)
  simp only [argT, Nat.reduceAdd, eB, eM, eWS]
  refine ev_seq fun K1 h1 => ?_
  refine ev_rf mB ?_
  iterate 4 refine dr_act wN mb ma mc mT mR ?_
  refine dr_nil (h1 _ ?_); clear h1
  refine ev_seq fun K1 h1 => ?_
  refine ev_seq fun K2 h2 => ?_
  refine ev_rf mB ?_
  refine dr_act wN mb ma mc mT mR ?_
  refine dr_callF wN mr mb mx mr (c139 d mh mh mh) (Nat.le_of_ble_eq_true rfl) mv mT mN ?_
  refine dr_act wN mb ma mc mT mR ?_
  refine dr_nil (h2 _ ?_); clear h2
  rw [show (okD d) = false from hk]
  refine ev_cond true mlq (fun hz => ?_) (fun hz => by cases hz)
  refine ev_seq fun K2 h2 => ?_
  refine ev_rf mB ?_
  iterate 3 refine dr_act wN mb ma mc mT mR ?_
  refine dr_nil (h2 _ ?_); clear h2
  refine ev_weak (weak_nil 16 0 0 29 1 mr mr mr mNl (by decide : 80 < 88)) ?_
  refine ev_weak (weak_nil 16 0 1 32 4 mr mr mr mNl (by decide : 88 < 96)) ?_
  refine ev_ret ?_
  exact retL [80, 88] (res' := [.cell 4 116, .tmp 5]) mr (.cell nT mZ ma mc mP (.tmp nT mL .nil)) rfl mr (by decide) ⟨⟨mr, rfl⟩, ⟨mr, rfl⟩, trivial⟩

theorem c73n (d : Dk) (x : Dl) (hl1 : d.m.length ≤ 1048576) (hl2 : ∀ r, r ∈ d.m → r.length ≤ 1048576) (hw : d.ws.length ≤ 1048576) (hk : okD d = true) (he : doD d x = none) : Good Try.prog 73 [eD d, eDl x] (.tup [oD 0 ⟨[], [], 0⟩, vb false]) [rM [], rWS []] := by
  refine good_of (E := En 18) (fn := Try.f73) (by kernel_rfl) (by kernel_rfl) rfl rfl (by simp only [List.length_cons, List.length_nil]; decide) (fun C0 => ?_)
  simp only [argT, Nat.reduceAdd, eB, eM, eWS]
  refine ev_seq fun K1 h1 => ?_
  refine ev_rf mB ?_
  iterate 4 refine dr_act wN mb ma mc mT mR ?_
  refine dr_nil (h1 _ ?_); clear h1
  refine ev_seq fun K1 h1 => ?_
  refine ev_seq fun K2 h2 => ?_
  refine ev_rf mB ?_
  refine dr_act wN mb ma mc mT mR ?_
  refine dr_callF wN mr mb mx mr (c139 d mh mh mh) (Nat.le_of_ble_eq_true rfl) mv mT mN ?_
  refine dr_act wN mb ma mc mT mR ?_
  refine dr_nil (h2 _ ?_); clear h2
  rw [show (okD d) = true from hk]
  refine ev_cond false mlq (fun hz => by cases hz) (fun hz => ?_)
  refine ev_skip (h1 _ ?_); clear h1
  refine ev_seq fun K1 h1 => ?_
  refine ev_rf mB ?_
  refine dr_act wN mb ma mc mT mR ?_
  refine dr_callF wN mr mb mx mr (c140 d mh mh mh) (Nat.le_of_ble_eq_true rfl) mv mT mN ?_
  iterate 2 refine dr_act wN mb ma mc mT mR ?_
  refine dr_nil (h1 _ ?_); clear h1
  refine ev_seq fun K1 h1 => ?_
  refine ev_seq fun K2 h2 => ?_
  refine ev_rf mB ?_
  refine dr_act wN mb ma mc mT mR ?_
  refine dr_callR [72, 64, 65] [] wN mr mbq mx (c141n d x mh mh) (.ren rfl rfl (.ren rfl rfl .nil)) ⟨⟨_, rfl, rfl, rfl, rfl, rfl⟩, ⟨_, mr, rfl, rfl, rnMap (fun _ => rfl) _, okMM⟩, ⟨_, mr, rfl, rfl, rnMap (fun _ => rfl) _, okMap (fun _ => rfl) _⟩, trivial⟩ ⟨⟨by decide, nz⟩, Nat.le_of_ble_eq_true rfl⟩ (v := vb false) rfl mT mRR2 ?_
  refine dr_act wN mb ma mc mT mR ?_
  refine dr_nil (h2 _ ?_); clear h2
  refine ev_cond true mlq (fun hz => ?_) (fun hz => by cases hz)
  refine ev_seq fun K2 h2 => ?_
  refine ev_rf mB ?_
  iterate 3 refine dr_act wN mb ma mc mT mR ?_
  refine dr_nil (h2 _ ?_); clear h2
  refine ev_weak (weak_nil 16 0 0 29 1 mr mr mr mNl (by decide : 136 < 144)) ?_
  refine ev_weak (weak_nil 16 0 1 32 4 mr mr mr mNl (by decide : 144 < 152)) ?_
  refine ev_ret ?_
  exact retL [136, 144] (res' := [.cell 4 116, .tmp 5]) mr (.cell nT mZ ma mc mP (.tmp nT mL .nil)) rfl mr (by decide) ⟨⟨mr, rfl⟩, ⟨mr, rfl⟩, trivial⟩

theorem c73s (d : Dk) (x : Dl) (d' : Dk) (hl1 : d.m.length ≤ 1048576) (hl2 : ∀ r, r ∈ d.m → r.length ≤ 1048576) (hw : d.ws.length ≤ 1048576) (hk : okD d = true) (he : doD d x = some d') : Good Try.prog 73 [eD d, eDl x] (.tup [oD 0 d', vb true]) [rM d'.m, rWS d'.ws] := by
  refine good_of (E := En 18) (fn := Try.f73) (by kernel_rfl) (by kernel_rfl) rfl rfl (by simp only [List.length_cons, List.length_nil]; decide) (fun C0 => ?_)
  simp only [argT, Nat.reduceAdd, eB, eM, eWS]
  refine ev_seq fun K1 h1 => ?_
  refine ev_rf mB ?_
  iterate 4 refine dr_act wN mb ma mc mT mR ?_
  refine dr_nil (h1 _ ?_); clear h1
  refine ev_seq fun K1 h1 => ?_
  refine ev_seq fun K2 h2 => ?_
  refine ev_rf mB ?_
  refine dr_act wN mb ma mc mT mR ?_
  refine dr_callF wN mr mb mx mr (c139 d mh mh mh) (Nat.le_of_ble_eq_true rfl) mv mT mN ?_
  refine dr_act wN mb ma mc mT mR ?_
  refine dr_nil (h2 _ ?_); clear h2
  rw [show (okD d) = true from hk]
  refine ev_cond false mlq (fun hz => by cases hz) (fun hz => ?_)
  refine ev_skip (h1 _ ?_); clear h1
  refine ev_seq fun K1 h1 => ?_
  refine ev_rf mB ?_
  refine dr_act wN mb ma mc mT mR ?_
  refine dr_callF wN mr mb mx mr (c140 d mh mh mh) (Nat.le_of_ble_eq_true rfl) mv mT mN ?_
  iterate 2 refine dr_act wN mb ma mc mT mR ?_
  refine dr_nil (h1 _ ?_); clear h1
  refine ev_seq fun K1 h1 => ?_
  refine ev_seq fun K2 h2 => ?_
  refine ev_rf mB ?_
  refine dr_act wN mb ma mc mT mR ?_
  refine dr_callR [72, 64, 65] [] wN mr mbq mx (c141s d x d' mh mh) (.ren rfl rfl (.ren rfl rfl .nil)) ⟨⟨_, rfl, rfl, rfl, rfl, rfl⟩, ⟨_, mr, rfl, rfl, rnMap (fun _ => rfl) _, okMM⟩, ⟨_, mr, rfl, rfl, rnMap (fun _ => rfl) _, okMap (fun _ => rfl) _⟩, trivial⟩ ⟨⟨by decide, nz⟩, Nat.le_of_ble_eq_true rfl⟩ (v := vb true) rfl mT mRR2 ?_
  refine dr_act wN mb ma mc mT mR ?_
  refine dr_nil (h2 _ ?_); clear h2
  refine ev_cond false mlq (fun hz => by cases hz) (fun hz => ?_)
  refine ev_skip (h1 _ ?_); clear h1
  refine ev_seq fun K1 h1 => ?_
  refine ev_rf mB ?_
  iterate 3 refine dr_act wN mb ma mc mT mR ?_
  refine dr_nil (h1 _ ?_); clear h1
  refine ev_ret ?_
  exact retL [96, 97] (res' := [.cell 4 116, .tmp 5]) mr (.cell nT mZ ma mc mP (.tmp nT mL .nil)) rfl mr (by decide) ⟨⟨mr, (pure_map fun _ => by first | rfl | simp [pcell])⟩, ⟨mr, (pure_map fun _ => by first | rfl | simp [pcell])⟩, trivial⟩

theorem c73 (d : Dk) (x : Dl) (hl1 : d.m.length ≤ 1048576) (hl2 : ∀ r, r ∈ d.m → r.length ≤ 1048576) (hw : d.ws.length ≤ 1048576) : Good Try.prog 73 [eD d, eDl x] (.tup [oD 0 (uD (dealO d x)), vb (dealO d x).isSome]) [rM (uD (dealO d x)).m, rWS (uD (dealO d x)).ws] := by
  cases hk : okD d
  · rw [dealO_no hk]; exact c73f d x hl1 hl2 hw hk
  rw [dealO_ok hk]
  cases he : doD d x with
  | none => exact c73n d x hl1 hl2 hw hk he
  | some d' => exact c73s d x d' hl1 hl2 hw hk he
end Go.Ev
namespace Go.Ev
open Go Go.RowKit Go.Proofs

theorem szD_bound {d : Dk} (h : ¬ szD d 1048576 < 0) (hl : Len d.m) (hw : d.ws.length ≤ maxLen) : d.m.length ≤ 1048576 ∧ (∀ r, r ∈ d.m → r.length ≤ 1048576) ∧ tot d.m ≤ 1048576 ∧ d.ws.length ≤ 1048576 := by
  unfold szD at h
  split at h
  · exact absurd (by decide : (-1 : Int) < 0) h
  rename_i h1
  obtain ⟨hm1, hm2, hm3⟩ := szM_bound (m := d.m) (by omega)
  split at h
  · exact absurd (by decide : (-1 : Int) < 0) h
  rename_i h2
  have h3 := szM_le d.m 1048576 (by decide)
  have := szWS_le (ws := d.ws) (k := szM d.m 1048576) (by omega) (by omega)
  exact ⟨hm1, hm2, hm3, by omega⟩
theorem c70y (d : Dk) (x : Dl) (y : Dk) (ok : Bool) (hl1 : d.m.length ≤ 1048576) (hl2 : ∀ r, r ∈ d.m → r.length ≤ 1048576) (hw : d.ws.length ≤ 1048576) (hq : uD (dealO d x) = y) (ho : (dealO d x).isSome = ok) : Good Try.prog 70 [eD d, eDl x] (.tup [oD 0 y, vb ok]) [rM y.m, rWS y.ws] := by
  subst hq; subst ho; exact c70 d x hl1 hl2 hw
theorem c73y (d : Dk) (x : Dl) (y : Dk) (ok : Bool) (hl1 : d.m.length ≤ 1048576) (hl2 : ∀ r, r ∈ d.m → r.length ≤ 1048576) (hw : d.ws.length ≤ 1048576) (hq : uD (dealO d x) = y) (ho : (dealO d x).isSome = ok) : Good Try.prog 73 [eD d, eDl x] (.tup [oD 0 y, vb ok]) [rM y.m, rWS y.ws] := by
  subst hq; subst ho; exact c73 d x hl1 hl2 hw
theorem c74s (a : Dk) (hl : Len a.m) (hw : a.ws.length ≤ maxLen) : Good Try.prog 74 [eD a, eD a] (vb true) [] := by
  have h := c74 a a hl hw
  rw [show qD a a = true from by simp [qD]] at h
  exact h
theorem hdD_mk {a : Dk} : hdD ⟨mkM 1 a.m, mkW (1 + tot a.m) a.ws.length, a.k⟩ 1 = 1 + tot a.m + 4 * (a.ws.length : Nat) := by
  have e1 : hdM (mkM 1 a.m) 1 = 1 + tot a.m := by rw [hdM, mkM_mkM, if_pos rfl, mkM_tot]
  have e2 : hdW (mkW (1 + tot a.m) a.ws.length) (1 + tot a.m) = 1 + tot a.m + 4 * (a.ws.length : Nat) := by rw [hdW, mkW_len, if_pos rfl]
  simp only [hdD, e1, e2]
  rw [if_neg (by omega), if_neg (by omega)]

set_option maxHeartbeats 4000000 in
theorem c11y (d : Dk) (x : Dl) (y : Dk) (ok : Bool) (hl : Len d.m) (hw1 : d.ws.length ≤ maxLen) (hq : uD (dealO d x) = y) (ho : (dealO d x).isSome = ok) : Good Try.prog 11 [eD d, eDl x] (vb true) [] := by
  refine good_of (E := En 104) (fn := Try.f11) (by kernel_rfl) (by kernel_rfl) rfl rfl (by simp only [List.length_cons, List.length_nil]; decide) (fun C0 => ?_)
  simp only [argT, Nat.reduceAdd, eB, eM, eWS]
  have hyg : GM y.m := by rw [← hq]; exact (dealO_g d x).1
  have hyw : y.ws.length ≤ 8 := by rw [← hq]; exact (dealO_g d x).2
  have hyt := hyg.tot
  have hyl := hyg.l
  have hya := hyg.l4
  have hyb := hyg.r4
  have hyL : Len y.m := ⟨by simp only [maxLen]; omega, fun r hr => by have := hyg.r r hr; simp only [maxLen]; omega⟩
  have hyW : y.ws.length ≤ maxLen := by simp only [maxLen]; omega
  have hyc : y.ws.length ≤ 1048576 := by omega
  refine ev_seq fun K1 h1 => ?_
  refine ev_rf mB ?_
  iterate 3 refine dr_act wN mb ma mc mT mR ?_
  refine dr_nil (h1 _ ?_); clear h1
  refine ev_seq fun K1 h1 => ?_
  refine ev_rf mB ?_
  refine dr_act wN mb ma mc mT mR ?_
  refine dr_nil (h1 _ ?_); clear h1
  refine ev_seq fun K1 h1 => ?_
  refine ev_rf mB ?_
  iterate 2 refine dr_act wN mb ma mc mT mR ?_
  refine dr_callF wN mr mb mx mr (c69 d 1048576 hl hw1 (by decide)) (Nat.le_of_ble_eq_true rfl) mv mT mN ?_
  refine dr_act wN mb ma mc mT mR ?_
  refine dr_nil (h1 _ ?_); clear h1
  refine ev_seq fun K1 h1 => ?_
  refine ev_seq fun K2 h2 => ?_
  refine ev_rf mB ?_
  iterate 2 refine dr_act wN mb ma mc mT mR ?_
  refine dr_nil (h2 _ ?_); clear h2
  cases hc1 : (decide ((szD d 1048576) < 0))
  rotate_left
  · have hc1 := of_decide_eq_true hc1
    refine ev_cond true mlq (fun hz => ?_) (fun hz => by cases hz)
    refine ev_seq fun K2 h2 => ?_
    refine ev_rf mB ?_
    refine dr_act wN mb ma mc mT mR ?_
    refine dr_nil (h2 _ ?_); clear h2
    refine ev_ret ?_
    exact retT [4] (hv := rfl)
  have hc1 := of_decide_eq_false hc1
  obtain ⟨hm1, hm2, hm3, hm4⟩ := szD_bound hc1 hl hw1
  refine ev_cond false mlq (fun hz => by cases hz) (fun hz => ?_)
  refine ev_skip (h1 _ ?_); clear h1
  refine ev_seq fun K1 h1 => ?_
  refine ev_reg mB ?_
  refine dr_act wN mb ma mc mT mR ?_
  refine dr_callF wN mr mb mx mr (c71 d mh mh mh) (Nat.le_of_ble_eq_true rfl) mv mT mN ?_
  refine dr_act wN mb ma mc mT mR ?_
  refine dr_callF wN mr mb mx mr (c72 x) (Nat.le_of_ble_eq_true rfl) mv mT mN ?_
  refine dr_call wN mr mb mx (.cons (.agg (.cons (fM mr rfl) (.cons (fWS mr rfl) (.cons (fn rfl) .nil)))) (.cons (fN rfl) .nil)) (c70y d x y ok mh mh mh mh mh) (Nat.le_of_ble_eq_true rfl) mv mT mN ?_
  iterate 6 refine dr_act wN mb ma mc mT mR ?_
  refine dr_nil ⟨fun _ => by kernel_rfl, h1 _ ?_⟩; clear h1
  refine ev_seq fun K1 h1 => ?_
  refine ev_rf mB ?_
  refine dr_act wN mb ma mc mT mR ?_
  refine dr_callF wN mr mb mx mr (c71 d mh mh mh) (Nat.le_of_ble_eq_true rfl) mv mT mN ?_
  iterate 2 refine dr_act wN mb ma mc mT mR ?_
  refine dr_nil (h1 _ ?_); clear h1
  refine ev_seq fun K1 h1 => ?_
  refine ev_reg mB ?_
  iterate 2 refine dr_act wN mb ma mc mT mR ?_
  refine dr_callF wN mr mb mx mr (c72 x) (Nat.le_of_ble_eq_true rfl) mv mT mN ?_
  refine dr_call wN mr mb mx (.cons (.agg (.cons (fM mr rfl) (.cons (fWS mr rfl) (.cons (fn rfl) .nil)))) (.cons (fN rfl) .nil)) (c73y d x y ok mh mh mh mh mh) (Nat.le_of_ble_eq_true rfl) mv mT mN ?_
  iterate 6 refine dr_act wN mb ma mc mT mR ?_
  refine dr_nil ⟨fun _ => by kernel_rfl, h1 _ ?_⟩; clear h1
  refine ev_seq fun K1 h1 => ?_
  refine ev_seq fun K2 h2 => ?_
  refine ev_rf mB ?_
  iterate 2 refine dr_act wN mb ma mc mT mR ?_
  refine dr_call wN mr mb mx (.cons (.agg (.cons (fM mr rfl) (.cons (fWS mr rfl) (.cons (fn rfl) .nil)))) (.cons (.agg (.cons (fM mr rfl) (.cons (fWS mr rfl) (.cons (fn rfl) .nil)))) .nil)) (c74s y (by assumption) (by assumption)) (Nat.le_of_ble_eq_true rfl) mv mT mN ?_
  iterate 2 refine dr_act wN mb ma mc mT mR ?_
  iterate 3 refine dr_act wG mb ma mc mT mR ?_
  refine dr_act wN mb ma mc mT mR ?_
  refine dr_nil (h2 _ ?_); clear h2
  rw [show (ok == ok) = true from by cases ok <;> rfl]
  refine ev_cond false mlq (fun hz => by cases hz) (fun hz => ?_)
  refine ev_skip (h1 _ ?_); clear h1
  refine ev_seq fun K1 h1 => ?_
  refine ev_seq fun K2 h2 => ?_
  refine ev_weak (σ' := ⟨[(2, .ptr (0, none) 0 0), (3, .ptr (8, none) 0 0), (4, vb false), (6, .ptr (144, none) 0 0), (7, vb ok), (8, .ptr (184, none) 0 0), (9, .ptr (256, none) 0 0), (10, vb ok)], [(0, ⟨111, 3, [[.list 1 (d.m.map cM), .list 4 (d.ws.map cW), vi d.k]]⟩), (8, ⟨113, 4, [[vi x.t, vi x.a, vi x.b, vi x.c]]⟩), (144, ⟨116, 3, [[.ref (112, none) 0 y.m.length, .ref (113, none) 0 y.ws.length, vi y.k]]⟩), (184, ⟨116, 3, [[.ref (176, none) 0 d.m.length, .ref (177, none) 0 d.ws.length, vi d.k]]⟩), (256, ⟨116, 3, [[.ref (224, none) 0 y.m.length, .ref (225, none) 0 y.ws.length, vi y.k]]⟩), (112, ⟨29, 1, y.m.map cR⟩), (113, ⟨32, 4, y.ws.map cW⟩), (176, ⟨29, 1, d.m.map cR⟩), (177, ⟨32, 4, d.ws.map cW⟩), (224, ⟨29, 1, y.m.map cR⟩), (225, ⟨32, 4, y.ws.map cW⟩)], 352⟩) (weak_ren [] mK (chkR_cons mK (chkR_cons mK (chkR_cons mK (chkR_cons mK (chkR_cons mK (chkRm rfl (by decide) rfl (fun _ => rfl) (fun a => by first | rfl | simp [okC]) (chkRm rfl (by decide) rfl (fun _ => rfl) (fun a => by first | rfl | simp [okC]) (chkRm rfl (by decide) rfl (fun _ => rfl) (fun a => by first | rfl | simp [okC]) (chkRm rfl (by decide) rfl (fun _ => rfl) (fun a => by first | rfl | simp [okC]) (chkRm rfl (by decide) rfl (fun _ => rfl) (fun a => by first | rfl | simp [okC]) (chkRm rfl (by decide) rfl (fun _ => rfl) (fun a => by first | rfl | simp [okC]) trivial))))))))))) mD mQ) ?_
  refine ev_reg mB ?_
  iterate 2 refine dr_act wN mb ma mc mT mR ?_
  refine dr_callF wN mr mb mx mr (c71 d mh mh mh) (Nat.le_of_ble_eq_true rfl) mv mT mN ?_
  refine dr_call wN mr mb mx (.cons (.agg (.cons (fM mr rfl) (.cons (fWS mr rfl) (.cons (fn rfl) .nil)))) (.cons (.agg (.cons (fM mr rfl) (.cons (fWS mr rfl) (.cons (fn rfl) .nil)))) .nil)) (c74s d (by assumption) (by assumption)) (Nat.le_of_ble_eq_true rfl) mv mT mN ?_
  refine dr_act wN mb ma mc mT mR ?_
  refine dr_nil ⟨fun _ => by kernel_rfl, h2 _ ?_⟩; clear h2
  refine ev_cond false mlq (fun hz => by cases hz) (fun hz => ?_)
  refine ev_skip (h1 _ ?_); clear h1
  refine ev_seq fun K1 h1 => ?_
  refine ev_rf mB ?_
  refine dr_act wN mb ma mc mT mR ?_
  refine dr_nil (h1 _ ?_); clear h1
  refine ev_seq fun K1 h1 => ?_
  refine ev_rf mB ?_
  iterate 2 refine dr_act wN mb ma mc mT mR ?_
  refine dr_callR [176, 177] [] wN mr mbq mx (c75 d 1 mh mh mh mh) (.ren rfl rfl (.ren rfl rfl .nil)) ⟨⟨_, mr, rfl, rfl, rnMap (fun _ => rfl) _, okMM⟩, ⟨_, mr, rfl, rfl, rnMap (fun _ => rfl) _, okMap (fun _ => rfl) _⟩, trivial⟩ ⟨⟨by decide, nz⟩, Nat.le_of_ble_eq_true rfl⟩ (v := vi (1 + tot d.m + 4 * (d.ws.length : Nat))) rfl mT mRR2 ?_
  refine dr_act wN mb ma mc mT mR ?_
  refine dr_nil (h1 _ ?_); clear h1
  refine ev_seq fun K1 h1 => ?_
  refine ev_seq fun K2 h2 => ?_
  refine ev_rf mB ?_
  iterate 3 refine dr_act wN mb ma mc mT mR ?_
  rw [show (decide ((1 + tot d.m + 4 * (d.ws.length : Nat) : Int) < 0)) = false from decide_eq_false (by omega)]
  iterate 2 refine dr_act wG mb ma mc mT mR ?_
  refine dr_call wG mr mb mx (.cons (.agg (.cons (fM mr rfl) (.cons (fWS mr rfl) (.cons (fn rfl) .nil)))) (.cons (.agg (.cons (fM mr rfl) (.cons (fWS mr rfl) (.cons (fn rfl) .nil)))) .nil)) (c74s y (by assumption) (by assumption)) (Nat.le_of_ble_eq_true rfl) mv mT mN ?_
  refine dr_act wG mb ma mc mT mR ?_
  iterate 2 refine dr_act wN mb ma mc mT mR ?_
  iterate 3 refine dr_act wG mb ma mc mT mR ?_
  refine dr_act wN mb ma mc mT mR ?_
  refine dr_nil (h2 _ ?_); clear h2
  rw [show (ok == ok) = true from by cases ok <;> rfl]
  refine ev_cond false mlq (fun hz => by cases hz) (fun hz => ?_)
  refine ev_skip (h1 _ ?_); clear h1
  refine ev_seq fun K1 h1 => ?_
  refine ev_rf mB ?_
  refine dr_act wN mb ma mc mT mR ?_
  refine dr_nil (h1 _ ?_); clear h1
  refine ev_seq fun K1 h1 => ?_
  refine ev_rf mB ?_
  iterate 2 refine dr_act wN mb ma mc mT mR ?_
  refine dr_callR [224, 225] [] wN mr mbq mx (c75 y 1 mh mh mh mh) (.ren rfl rfl (.ren rfl rfl .nil)) ⟨⟨_, mr, rfl, rfl, rnMap (fun _ => rfl) _, okMM⟩, ⟨_, mr, rfl, rfl, rnMap (fun _ => rfl) _, okMap (fun _ => rfl) _⟩, trivial⟩ ⟨⟨by decide, nz⟩, Nat.le_of_ble_eq_true rfl⟩ (v := vi (1 + tot y.m + 4 * (y.ws.length : Nat))) rfl mT mRR2 ?_
  refine dr_act wN mb ma mc mT mR ?_
  refine dr_nil (h1 _ ?_); clear h1
  refine ev_seq fun K1 h1 => ?_
  refine ev_rf mB ?_
  refine dr_act wN mb ma mc mT mR ?_
  refine dr_nil (h1 _ ?_); clear h1
  refine ev_seq fun K1 h1 => ?_
  refine ev_rf mB ?_
  iterate 2 refine dr_act wN mb ma mc mT mR ?_
  refine dr_call wN mr mb mx (.cons (.agg (.cons (fM mr (by simp only [mkM_length, mkW_len])) (.cons (fWS mr (by simp only [mkM_length, mkW_len])) (.cons (fn rfl) .nil)))) (.cons (fN rfl) .nil)) (c76 ⟨mkM 1 y.m, mkW (1 + tot y.m) y.ws.length, y.k⟩ 1 (by decide) (by first | (rw [mkM_tot]; omega) | (dsimp only; rw [mkM_tot]; omega)) (by first | (rw [mkM_length]; omega) | (dsimp only; rw [mkM_length]; omega)) (by first | (rw [mkW_len]; omega) | (dsimp only; rw [mkW_len]; omega))) (Nat.le_of_ble_eq_true rfl) mv mT mN ?_
  rw [hdD_mk]
  refine dr_act wN mb ma mc mT mR ?_
  refine dr_nil (h1 _ ?_); clear h1
  refine ev_seq fun K1 h1 => ?_
  refine ev_seq fun K2 h2 => ?_
  refine ev_rf mB ?_
  iterate 2 refine dr_act wN mb ma mc mT mR ?_
  refine dr_nil (h2 _ ?_); clear h2
  rw [show (decide ((1 + tot y.m + 4 * (y.ws.length : Nat) : Int) < 0)) = false from decide_eq_false (by omega)]
  refine ev_cond false mlq (fun hz => by cases hz) (fun hz => ?_)
  refine ev_skip (h1 _ ?_); clear h1
  refine ev_seq fun K1 h1 => ?_
  refine ev_seq fun K2 h2 => ?_
  refine ev_rf mB ?_
  iterate 3 refine dr_act wN mb ma mc mT mR ?_
  refine dr_nil (h2 _ ?_); clear h2
  rw [show ((1 + tot y.m + 4 * (y.ws.length : Nat) : Int) != (1 + tot y.m + 4 * (y.ws.length : Nat) : Int)) = false from bne_self_eq_false _]
  refine ev_cond false mlq (fun hz => by cases hz) (fun hz => ?_)
  refine ev_skip (h1 _ ?_); clear h1
  refine ev_seq fun K1 h1 => ?_
  refine ev_weak (σ' := ⟨[(2, .ptr (0, none) 0 0), (3, .ptr (8, none) 0 0), (4, vb false), (6, .ptr (144, none) 0 0), (7, vb ok), (9, .ptr (256, none) 0 0), (12, vi (1 + tot y.m + 4 * (y.ws.length : Nat) : Int)), (13, vi (1 + tot y.m + 4 * (y.ws.length : Nat) : Int))], [(0, ⟨111, 3, [[.list 1 (d.m.map cM), .list 4 (d.ws.map cW), vi d.k]]⟩), (8, ⟨113, 4, [[vi x.t, vi x.a, vi x.b, vi x.c]]⟩), (144, ⟨116, 3, [[.ref (112, none) 0 y.m.length, .ref (113, none) 0 y.ws.length, vi y.k]]⟩), (256, ⟨116, 3, [[.ref (224, none) 0 y.m.length, .ref (225, none) 0 y.ws.length, vi y.k]]⟩), (112, ⟨29, 1, y.m.map cR⟩), (113, ⟨32, 4, y.ws.map cW⟩), (224, ⟨29, 1, (mkM 1 y.m).map cR⟩), (225, ⟨32, 4, (mkW (1 + tot y.m) y.ws.length).map cW⟩)], 656⟩) (weak_ren [] mK (chkR_cons mK (chkR_cons mK (chkR_cons mK (chkR_cons mK (chkRm rfl (by decide) rfl (fun _ => rfl) (fun a => by first | rfl | simp [okC]) (chkRm rfl (by decide) rfl (fun _ => rfl) (fun a => by first | rfl | simp [okC]) (chkRm rfl (by decide) rfl (fun _ => rfl) (fun a => by first | rfl | simp [okC]) (chkRm rfl (by decide) rfl (fun _ => rfl) (fun a => by first | rfl | simp [okC]) trivial)))))))) mD mQ) ?_
  refine ev_reg mB ?_
  refine dr_act wN mb ma mc mT mR ?_
  refine dr_callF wN mr mb mx mr (c71 d mh mh mh) (Nat.le_of_ble_eq_true rfl) mv mT mN ?_
  refine dr_act wN mb ma mc mT mR ?_
  refine dr_callF wN mr mb mx mr (c72 x) (Nat.le_of_ble_eq_true rfl) mv mT mN ?_
  refine dr_call wN mr mb mx (.cons (.agg (.cons (fM mr rfl) (.cons (fWS mr rfl) (.cons (fn rfl) .nil)))) (.cons (fN rfl) .nil)) (c73y d x y ok mh mh mh mh mh) (Nat.le_of_ble_eq_true rfl) mv mT mN ?_
  iterate 6 refine dr_act wN mb ma mc mT mR ?_
  refine dr_nil ⟨fun _ => by kernel_rfl, h1 _ ?_⟩; clear h1
  refine ev_seq fun K1 h1 => ?_
  refine ev_seq fun K2 h2 => ?_
  refine ev_rf mB ?_
  iterate 2 refine dr_act wN mb ma mc mT mR ?_
  refine dr_call wN mr mb mx (.cons (.agg (.cons (fM mr rfl) (.cons (fWS mr rfl) (.cons (fn rfl) .nil)))) (.cons (.agg (.cons (fM mr rfl) (.cons (fWS mr rfl) (.cons (fn rfl) .nil)))) .nil)) (c74s y (by assumption) (by assumption)) (Nat.le_of_ble_eq_true rfl) mv mT mN ?_
  iterate 2 refine dr_act wN mb ma mc mT mR ?_
  iterate 3 refine dr_act wG mb ma mc mT mR ?_
  refine dr_act wN mb ma mc mT mR ?_
  refine dr_nil (h2 _ ?_); clear h2
  rw [show (ok == ok) = true from by cases ok <;> rfl]
  refine ev_cond false mlq (fun hz => by cases hz) (fun hz => ?_)
  refine ev_skip (h1 _ ?_); clear h1
  refine ev_seq fun K1 h1 => ?_
  refine ev_rf mB ?_
  refine dr_act wN mb ma mc mT mR ?_
  refine dr_nil (h1 _ ?_); clear h1
  refine ev_seq fun K1 h1 => ?_
  refine ev_rf mB ?_
  iterate 2 refine dr_act wN mb ma mc mT mR ?_
  refine dr_call wN mr mb mx (.cons (.agg (.cons (fM mr (by simp only [mkM_length, mkW_len])) (.cons (fWS mr (by simp only [mkM_length, mkW_len])) (.cons (fn rfl) .nil)))) (.cons (fN rfl) .nil)) (c76 ⟨mkM 1 y.m, mkW (1 + tot y.m) y.ws.length, y.k⟩ 1 (by decide) (by first | (rw [mkM_tot]; omega) | (dsimp only; rw [mkM_tot]; omega)) (by first | (rw [mkM_length]; omega) | (dsimp only; rw [mkM_length]; omega)) (by first | (rw [mkW_len]; omega) | (dsimp only; rw [mkW_len]; omega))) (Nat.le_of_ble_eq_true rfl) mv mT mN ?_
  rw [hdD_mk]
  refine dr_act wN mb ma mc mT mR ?_
  refine dr_nil (h1 _ ?_); clear h1
  refine ev_seq fun K1 h1 => ?_
  refine ev_seq fun K2 h2 => ?_
  refine ev_rf mB ?_
  iterate 2 refine dr_act wN mb ma mc mT mR ?_
  refine dr_nil (h2 _ ?_); clear h2
  rw [show (decide ((1 + tot y.m + 4 * (y.ws.length : Nat) : Int) < 0)) = false from decide_eq_false (by omega)]
  refine ev_cond false mlq (fun hz => by cases hz) (fun hz => ?_)
  refine ev_skip (h1 _ ?_); clear h1
  refine ev_seq fun K1 h1 => ?_
  refine ev_seq fun K2 h2 => ?_
  refine ev_rf mB ?_
  iterate 3 refine dr_act wN mb ma mc mT mR ?_
  refine dr_nil (h2 _ ?_); clear h2
  rw [show ((1 + tot y.m + 4 * (y.ws.length : Nat) : Int) != (1 + tot y.m + 4 * (y.ws.length : Nat) : Int)) = false from bne_self_eq_false _]
  refine ev_cond false mlq (fun hz => by cases hz) (fun hz => ?_)
  refine ev_skip (h1 _ ?_); clear h1
  refine ev_seq fun K1 h1 => ?_
  refine ev_rf mB ?_
  refine dr_act wN mb ma mc mT mR ?_
  refine dr_nil (h1 _ ?_); clear h1
  refine ev_ret ?_
  exact retT [4] (hv := rfl)

theorem c11 (d : Dk) (x : Dl) (hl : Len d.m) (hw1 : d.ws.length ≤ maxLen) : Good Try.prog 11 [eD d, eDl x] (vb true) [] := c11y d x _ _ hl hw1 rfl rfl
end Go.Ev
namespace Go.Ev
open Go Go.RowKit Go.Proofs

theorem rd3 : RdT Try.prog 3 1 (fun n : Int => [vi n]) (fun _ => True) := (rd_int Try.underlying3).map id (fun _ => rfl) (fun _ _ => trivial)
theorem rd5 : RdT Try.prog 5 1 cB (fun _ => True) := (rd_int Try.underlying5).map id (fun _ => rfl) (fun _ _ => trivial)
theorem rd29 : RdT Try.prog 29 1 cM (fun l => l.length ≤ maxLen) := (rd_slice rd5 (by decide) (by kernel_rfl) Try.underlying29).map id (fun _ => rfl) (fun _ h => h.1)
theorem rd22 : RdT Try.prog 22 1 (fun m => [eM m]) Len := (rd_slice rd29 (by decide) (by kernel_rfl) Try.underlying22).map id (fun _ => rfl) (fun _ h => h)
theorem rd24 : RdT Try.prog 24 1 (fun m => [eM m]) Len := (rd_struct Try.underlying24 (by kernel_rfl) (rdF_cons rd22 rfl (by kernel_rfl) (rdF_nil _))).map (fun p => p.1) (fun _ => rfl) (fun _ h => h.1)
theorem rd26 : RdT Try.prog 26 4 cW (fun _ => True) := (rd_struct Try.underlying26 (by kernel_rfl) (rdF_cons rd3 rfl (by kernel_rfl) (rdF_cons rd3 rfl (by kernel_rfl) (rdF_cons rd3 rfl (by kernel_rfl) (rdF_cons rd3 rfl (by kernel_rfl) (rdF_nil _)))))).map (fun p => ⟨p.1, p.2.1, p.2.2.1, p.2.2.2.1⟩) (fun _ => rfl) (fun _ _ => trivial)
theorem rd28 : RdT Try.prog 28 7 (fun g : Gp => cG (eM g.m) g) (fun g => Len g.m) := (rd_struct Try.underlying28 (by kernel_rfl) (rdF_cons rd24 rfl (by kernel_rfl) (rdF_cons rd26 rfl (by kernel_rfl) (rdF_cons rd3 rfl (by kernel_rfl) (rdF_cons rd3 rfl (by kernel_rfl) (rdF_nil _)))))).map (fun p => ⟨p.1, p.2.1, p.2.2.1, p.2.2.2.1⟩) (fun _ => rfl) (fun _ h => h.1)
theorem rd45 : RdT Try.prog 45 3 (fun e : Ed => cE (eB e.s) e) (fun e => e.s.length ≤ maxLen) := (rd_struct Try.underlying45 (by kernel_rfl) (rdF_cons rd3 rfl (by kernel_rfl) (rdF_cons rd3 rfl (by kernel_rfl) (rdF_cons rd29 rfl (by kernel_rfl) (rdF_nil _))))).map (fun p => ⟨p.1, p.2.1, p.2.2.1⟩) (fun _ => rfl) (fun _ h => h.2.2.1)
end Go.Ev
namespace Go.Ev
open Go Go.RowKit Go.Proofs
theorem rd92 : RdT Try.prog 92 1 (fun ws => [eWS ws]) (fun ws => ws.length ≤ maxLen) := (rd_slice rd26 (by decide) (by kernel_rfl) Try.underlying92).map id (fun _ => rfl) (fun _ h => h.1)
theorem rd111 : RdT Try.prog 111 3 (fun d : Dk => [eM d.m, eWS d.ws, vi d.k]) (fun d => Len d.m ∧ d.ws.length ≤ maxLen) := (rd_struct Try.underlying111 (by kernel_rfl) (rdF_cons rd24 rfl (by kernel_rfl) (rdF_cons rd92 rfl (by kernel_rfl) (rdF_cons rd3 rfl (by kernel_rfl) (rdF_nil _))))).map (fun p => ⟨p.1, p.2.1, p.2.2.1⟩) (fun _ => rfl) (fun _ h => ⟨h.1, h.2.1⟩)
theorem rd113 : RdT Try.prog 113 4 (fun x : Dl => [vi x.t, vi x.a, vi x.b, vi x.c]) (fun _ => True) := (rd_struct Try.underlying113 (by kernel_rfl) (rdF_cons rd3 rfl (by kernel_rfl) (rdF_cons rd3 rfl (by kernel_rfl) (rdF_cons rd3 rfl (by kernel_rfl) (rdF_cons rd3 rfl (by kernel_rfl) (rdF_nil _)))))).map (fun p => ⟨p.1, p.2.1, p.2.2.1, p.2.2.2.1⟩) (fun _ => rfl) (fun _ _ => trivial)
end Go.Ev
namespace Go.Proofs.Ytmkcbbbknbahgaa.fnExactDoDeal
open Go.ChangeShapes Go.WideShapes Go.ChangeAt Go.RowKit
open Go.ChangeMaps (shut_string)
theorem own : ownKnob Try.prog.godebug = none := by kernel_rfl
theorem laidOut : laidOutB Try.prog = true := by kernel_rfl
set_option maxRecDepth 100000 in
set_option maxHeartbeats 2000000 in
theorem lifted (os : Os) (started : os.Started) (H : Type) (enc : TypeId × Value → H) :
    ReturnsInHanded {} Try.checked os 11 .any (Rows.fnExactDoDealSpec.pre6 enc Try.prog Try.f11 Rows.fnExactDoDealRow.domain false) (Rows.fnExactDoDealSpec.post enc Try.prog Try.f11 false true false false) := by
  refine returnsInHanded_of_change_sized (C := Try.checked) own started (by kernel_rfl) Try.func11
    (ChangeSpec.witness6 (enc := enc) (C := Try.checked) false ⟨#[], #[.agg #[.slice none 0 0, .slice none 0 0, .int .i64 0], .agg #[.int .i64 0, .int .i64 0, .int .i64 0, .int .i64 0]], []⟩ 8 (by kernel_rfl) (by kernel_rfl) (by kernel_rfl) (by kernel_rfl)) ?_
  intro W base args ds gs before hval0 hW hcnd hsz0 _
  have hval : ∀ (j : Nat) t v, Try.f11.params[j]? = some t → args[j]? = some v → Value.okWide Try.prog W .any base t v := hval0
  have hW' := hW
  obtain ⟨p, q, hA0, hV, rfl, hfz, hnd⟩ := hW
  have hA : DataW.TrodAll enc Try.prog W 0 (fun _ => true) true Try.f11.params.toList args.toList ds p := hA0
  rw [Try.params11] at hA hval
  obtain ⟨v0, vs0, d0, ds0, p0, q0, hargs, rfl, rfl, h0, r0⟩ := trodAll_cons hA
  obtain ⟨v1, vs1, d1, ds1, p1, q1, rfl, rfl, rfl, h1, r1⟩ := trodAll_cons r0
  obtain ⟨rfl, rfl, rfl⟩ := trodAll_nil r1
  obtain rfl : args = #[v0, v1] := by cases args; simp_all
  obtain ⟨rfl, rfl⟩ := trodVars_none hV
  obtain ⟨cs0, rfl, _⟩ := okWide_struct Try.underlying111 (hval 0 111 v0 rfl rfl)
  have lt0 : ∀ x ∈ p0, x.block < W.heap.size := by obtain ⟨m, hm⟩ := h0; exact DataW.trod_lt m _ _ _ hm
  obtain ⟨cs1, rfl, _⟩ := okWide_struct Try.underlying113 (hval 1 113 v1 rfl rfl)
  have lt1 : ∀ x ∈ p1, x.block < W.heap.size := by obtain ⟨m, hm⟩ := h1; exact DataW.trod_lt m _ _ _ hm
  obtain ⟨x0, y0, z0⟩ := Go.Ev.RdT.agg Go.Ev.rd111 h0
  obtain ⟨x1, y1, z1⟩ := Go.Ev.RdT.agg Go.Ev.rd113 h1
  clear hA0 hval0 hsz0
  refine ((Go.Ev.c11 x0 x1 y0.1 y0.2).2 W (Go.Ev.FW W) #[.agg cs0, .agg cs1] (fun _ h => h) rfl (fun i v x h1 h2 => ?_)).mono ?_
  · rcases i with _ | _ | i
    · simp at h1 h2; subst h1; subst h2; exact z0
    · simp at h1 h2; subst h1; subst h2; exact z1
    · simp at h2
  rintro e W' ⟨v', C', rfl, rfl, _, _, hV', bel, _⟩
  obtain rfl := hV'.val_inv
  exact ⟨_, rfl, _, _, _, [], _, [], hW', trodAll_mk1 (shut_bool Try.underlying4 _), (trodAll_cons_mk (Below.trod laidOut (by kernel_rfl) (of_decide_eq_true (by kernel_rfl)) h0 bel lt0) (trodAll_cons_mk (Below.trod laidOut (by kernel_rfl) (of_decide_eq_true (by kernel_rfl)) h1 bel lt1) trodAll_mk0)), rfl, bel.frame _, fun h => by cases h⟩
theorem cl1 : Try.pinned.checked.prog.funcNamed Rows.fnExactDoDealRow.func = some 11 := by kernel_rfl
theorem cl2 : joinedFacts Try.pinned.checked.prog 11 Try.f11 Rows.fnExactDoDealSpec Rows.fnExactDoDealRow = true := by kernel_rfl
theorem cl3 : Try.f11.isInstance Try.pinned.checked.prog Rows.fnExactDoDealRow.origin Rows.fnExactDoDealRow.targs := of_decide_eq_true (by kernel_rfl)
theorem cl4 : Try.f11.isWrapper Try.pinned.checked.prog Rows.fnExactDoDealRow.wrapper Rows.fnExactDoDealRow.mainSum := (by unfold Func.isWrapper; first | (rw [if_pos (by decide +kernel)]; kernel_rfl) | (rw [if_neg (by decide +kernel)]; exact ⟨rfl, rfl⟩))
theorem over : Rows.fnExactDoDealRow.holds Try.pinned (OpenSpec.ofChange Rows.fnExactDoDealSpec) :=
  OpenClaim.holds_of_wide 11 Try.f11 rfl rfl rfl rfl rfl rfl rfl ⟨rfl, rfl, rfl, rfl, rfl⟩ rfl rfl rfl rfl rfl cl1 Try.func11 cl2 cl3 cl4
    (fun os started H enc _ => lifted os started H enc)
theorem proved : Rows.FnExactDoDealSaid := over
#print axioms proved
end Go.Proofs.Ytmkcbbbknbahgaa.fnExactDoDeal
namespace Go.Proofs.Ytmkcbbbknbahgaa
/-- The row, under a short name, for the claim. -/
theorem fnExactDoDeal_holds : Rows.FnExactDoDealSaid := fnExactDoDeal.proved
end Go.Proofs.Ytmkcbbbknbahgaa
