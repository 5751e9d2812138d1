/- FnExactDoDeals returns true for every argument, and its arguments read as they did. No conditions. -/
import Derived.Below
import Derived.ChangeArms
import Derived.ChangeOld
import Derived.DataReads
import Derived.KernelRfl
import Derived.Laws.AppendOwn
import Derived.Laws.BytesArg
import Derived.Laws.BytesString
import Derived.Laws.CopyRow
import Derived.Laws.Entries
import Derived.Laws.IdiomCopy
import Derived.Laws.MakeOwn
import Derived.Laws.OwnMore
import Derived.OpenShut
import Derived.Orders
import Derived.ProofKit
import Derived.ShutString
import Derived.SizedLaws
import Derived.Test.YtmkcbbbknbahgaaProg
import Derived.Test.YtmkcbbbknbahgaaRows
import Derived.WalkKit
import Derived.Test.YtmkcbbbknbahgaaEvDd10
set_option linter.unusedVariables false
set_option linter.unusedSimpArgs false
namespace Go.Ev
open Go Go.RowKit Go.Proofs

theorem c141s (d : Dk) (x : Dl) (d' : Dk) (hd : okD d = true) (he : doD d x = some d') : GoodR Try.prog 141 [.ptr (0, none) 0 0, eDl x] [⟨116, 3, [[.ref (1, none) 0 d.m.length, .ref (2, none) 0 d.ws.length, vi d.k]]⟩, rM d.m, rWS d.ws] (vb true) [some ⟨116, 3, [[.ref (3, none) 0 d'.m.length, .ref (4, none) 0 d'.ws.length, vi d'.k]]⟩, none, none, some (rM d'.m), some (rWS d'.ws)] := by
  have h := c141 d x hd
  rw [he] at h
  exact h
theorem c141n (d : Dk) (x : Dl) (hd : okD d = true) (he : doD d x = none) : GoodR Try.prog 141 [.ptr (0, none) 0 0, eDl x] [⟨116, 3, [[.ref (1, none) 0 d.m.length, .ref (2, none) 0 d.ws.length, vi d.k]]⟩, rM d.m, rWS d.ws] (vb false) [none, none, none] := by
  have h := c141 d x hd
  rw [he] at h
  exact h
/-- A deal on a desk. -/
def dealO (d : Dk) (x : Dl) : Option Dk := if okD d = true then doD d x else none
theorem dealO_ok {d : Dk} {x : Dl} (h : okD d = true) : dealO d x = doD d x := if_pos h
theorem dealO_no {d : Dk} {x : Dl} (h : okD d = false) : dealO d x = none := if_neg (by rw [h]; decide)
theorem dealO_g (d : Dk) (x : Dl) : GM (uD (dealO d x)).m ∧ (uD (dealO d x)).ws.length ≤ 8 := by
  unfold dealO
  split
  · unfold doD
    split
    · rename_i h
      exact ⟨okD_g h.2, by have := (okD_r h.2).2.1; simp only [uD, Option.getD_some]; omega⟩
    · exact ⟨GM.nil, Nat.zero_le _⟩
  · exact ⟨GM.nil, Nat.zero_le _⟩

theorem c70 (d : Dk) (x : Dl) (hl1 : d.m.length ≤ 1048576) (hl2 : ∀ r, r ∈ d.m → r.length ≤ 1048576) (hw : d.ws.length ≤ 1048576) : Good Try.prog 70 [eD d, eDl x] (.tup [oD 0 (uD (dealO d x)), vb (dealO d x).isSome]) [rM (uD (dealO d x)).m, rWS (uD (dealO d x)).ws] := by
  refine good_of (E := En 15) (fn := Try.f70) (by kernel_rfl) (by kernel_rfl) rfl rfl (by simp only [List.length_cons, List.length_nil]; decide) (fun C0 => ?_)
  simp only [argT, Nat.reduceAdd, eB, eM, eWS]
  refine ev_seq fun K1 h1 => ?_
  refine ev_rf mB ?_
  iterate 4 refine dr_act wN mb ma mc mT mR ?_
  refine dr_nil (h1 _ ?_); clear h1
  refine ev_seq fun K1 h1 => ?_
  refine ev_seq fun K2 h2 => ?_
  refine ev_rf mB ?_
  refine dr_act wN mb ma mc mT mR ?_
  refine dr_callF wN mr mb mx mr (c137 d mh mh mh) (Nat.le_of_ble_eq_true rfl) mv mT mN ?_
  refine dr_act wN mb ma mc mT mR ?_
  refine dr_nil (h2 _ ?_); clear h2
  cases hc1 : (okD d)
  · refine ev_cond true mlq (fun hz => ?_) (fun hz => by cases hz)
    refine ev_seq fun K2 h2 => ?_
    refine ev_rf mB ?_
    iterate 3 refine dr_act wN mb ma mc mT mR ?_
    refine dr_nil (h2 _ ?_); clear h2
    refine ev_weak (weak_nil 16 0 0 29 1 mr mr mr mNl (by decide : 80 < 88)) ?_
    refine ev_weak (weak_nil 16 0 1 32 4 mr mr mr mNl (by decide : 88 < 96)) ?_
    refine ev_ret ?_
    rw [dealO_no (by assumption)]
    exact retL [80, 88] (res' := [.cell 4 116, .tmp 5]) mr (.cell nT mZ ma mc mP (.tmp nT mL .nil)) rfl mr (by decide) ⟨⟨mr, rfl⟩, ⟨mr, rfl⟩, trivial⟩
  refine ev_cond false mlq (fun hz => by cases hz) (fun hz => ?_)
  refine ev_skip (h1 _ ?_); clear h1
  refine ev_seq fun K1 h1 => ?_
  refine ev_rf mB ?_
  iterate 2 refine dr_act wN mb ma mc mT mR ?_
  refine dr_callF wN mr mb mx mr (c138 d x mh) (Nat.le_of_ble_eq_true rfl) mv mT mN ?_
  iterate 4 refine dr_act wN mb ma mc mT mR ?_
  refine dr_nil (h1 _ ?_); clear h1
  refine ev_ret ?_
  rw [dealO_ok (by assumption)]
  exact retL [72, 73] (res' := [.cell 4 116, .tmp 5]) mr (.cell nT mZ ma mc mP (.tmp nT mL .nil)) rfl mr (by decide) ⟨⟨mr, (pure_map fun _ => by first | rfl | simp [pcell])⟩, ⟨mr, (pure_map fun _ => by first | rfl | simp [pcell])⟩, trivial⟩

theorem c73f (d : Dk) (x : Dl) (hl1 : d.m.length ≤ 1048576) (hl2 : ∀ r, r ∈ d.m → r.length ≤ 1048576) (hw : d.ws.length ≤ 1048576) (hk : okD d = false) : Good Try.prog 73 [eD d, eDl x] (.tup [oD 0 ⟨[], [], 0⟩, vb false]) [rM [], rWS []] := by
  refine good_of (E := En 18) (fn := Try.f73) (by kernel_rfl) (by kernel_rfl) rfl rfl (by simp only [List.length_cons, List.length_nil]; decide) (fun C0 => ?_)
  simp only [argT, Nat.reduceAdd, eB, eM, eWS]
  refine ev_seq fun K1 h1 => ?_
  refine ev_rf mB ?_
  iterate 4 refine dr_act wN mb ma mc mT mR ?_
  refine dr_nil (h1 _ ?_); clear h1
  refine ev_seq fun K1 h1 => ?_
  refine ev_seq fun K2 h2 => ?_
  refine ev_rf mB ?_
  refine dr_act wN mb ma mc mT mR ?_
  refine dr_callF wN mr mb mx mr (c139 d mh mh mh) (Nat.le_of_ble_eq_true rfl) mv mT mN ?_
  refine dr_act wN mb ma mc mT mR ?_
  refine dr_nil (h2 _ ?_); clear h2
  rw [show (okD d) = false from hk]
  refine ev_cond true mlq (fun hz => ?_) (fun hz => by cases hz)
  refine ev_seq fun K2 h2 => ?_
  refine ev_rf mB ?_
  iterate 3 refine dr_act wN mb ma mc mT mR ?_
  refine dr_nil (h2 _ ?_); clear h2
  refine ev_weak (weak_nil 16 0 0 29 1 mr mr mr mNl (by decide : 80 < 88)) ?_
  refine ev_weak (weak_nil 16 0 1 32 4 mr mr mr mNl (by decide : 88 < 96)) ?_
  refine ev_ret ?_
  exact retL [80, 88] (res' := [.cell 4 116, .tmp 5]) mr (.cell nT mZ ma mc mP (.tmp nT mL .nil)) rfl mr (by decide) ⟨⟨mr, rfl⟩, ⟨mr, rfl⟩, trivial⟩

theorem c73n (d : Dk) (x : Dl) (hl1 : d.m.length ≤ 1048576) (hl2 : ∀ r, r ∈ d.m → r.length ≤ 1048576) (hw : d.ws.length ≤ 1048576) (hk : okD d = true) (he : doD d x = none) : Good Try.prog 73 [eD d, eDl x] (.tup [oD 0 ⟨[], [], 0⟩, vb false]) [rM [], rWS []] := by
  refine good_of (E := En 18) (fn := Try.f73) (by kernel_rfl) (by kernel_rfl) rfl rfl (by simp only [List.length_cons, List.length_nil]; decide) (fun C0 => ?_)
  simp only [argT, Nat.reduceAdd, eB, eM, eWS]
  refine ev_seq fun K1 h1 => ?_
  refine ev_rf mB ?_
  iterate 4 refine dr_act wN mb ma mc mT mR ?_
  refine dr_nil (h1 _ ?_); clear h1
  refine ev_seq fun K1 h1 => ?_
  refine ev_seq fun K2 h2 => ?_
  refine ev_rf mB ?_
  refine dr_act wN mb ma mc mT mR ?_
  refine dr_callF wN mr mb mx mr (c139 d mh mh mh) (Nat.le_of_ble_eq_true rfl) mv mT mN ?_
  refine dr_act wN mb ma mc mT mR ?_
  refine dr_nil (h2 _ ?_); clear h2
  rw [show (okD d) = true from hk]
  refine ev_cond false mlq (fun hz => by cases hz) (fun hz => ?_)
  refine ev_skip (h1 _ ?_); clear h1
  refine ev_seq fun K1 h1 => ?_
  refine ev_rf mB ?_
  refine dr_act wN mb ma mc mT mR ?_
  refine dr_callF wN mr mb mx mr (c140 d mh mh mh) (Nat.le_of_ble_eq_true rfl) mv mT mN ?_
  iterate 2 refine dr_act wN mb ma mc mT mR ?_
  refine dr_nil (h1 _ ?_); clear h1
  refine ev_seq fun K1 h1 => ?_
  refine ev_seq fun K2 h2 => ?_
  refine ev_rf mB ?_
  refine dr_act wN mb ma mc mT mR ?_
  refine dr_callR [72, 64, 65] [] wN mr mbq mx (c141n d x mh mh) (.ren rfl rfl (.ren rfl rfl .nil)) ⟨⟨_, rfl, rfl, rfl, rfl, rfl⟩, ⟨_, mr, rfl, rfl, rnMap (fun _ => rfl) _, okMM⟩, ⟨_, mr, rfl, rfl, rnMap (fun _ => rfl) _, okMap (fun _ => rfl) _⟩, trivial⟩ ⟨⟨by decide, nz⟩, Nat.le_of_ble_eq_true rfl⟩ (v := vb false) rfl mT mRR2 ?_
  refine dr_act wN mb ma mc mT mR ?_
  refine dr_nil (h2 _ ?_); clear h2
  refine ev_cond true mlq (fun hz => ?_) (fun hz => by cases hz)
  refine ev_seq fun K2 h2 => ?_
  refine ev_rf mB ?_
  iterate 3 refine dr_act wN mb ma mc mT mR ?_
  refine dr_nil (h2 _ ?_); clear h2
  refine ev_weak (weak_nil 16 0 0 29 1 mr mr mr mNl (by decide : 136 < 144)) ?_
  refine ev_weak (weak_nil 16 0 1 32 4 mr mr mr mNl (by decide : 144 < 152)) ?_
  refine ev_ret ?_
  exact retL [136, 144] (res' := [.cell 4 116, .tmp 5]) mr (.cell nT mZ ma mc mP (.tmp nT mL .nil)) rfl mr (by decide) ⟨⟨mr, rfl⟩, ⟨mr, rfl⟩, trivial⟩

theorem c73s (d : Dk) (x : Dl) (d' : Dk) (hl1 : d.m.length ≤ 1048576) (hl2 : ∀ r, r ∈ d.m → r.length ≤ 1048576) (hw : d.ws.length ≤ 1048576) (hk : okD d = true) (he : doD d x = some d') : Good Try.prog 73 [eD d, eDl x] (.tup [oD 0 d', vb true]) [rM d'.m, rWS d'.ws] := by
  refine good_of (E := En 18) (fn := Try.f73) (by kernel_rfl) (by kernel_rfl) rfl rfl (by simp only [List.length_cons, List.length_nil]; decide) (fun C0 => ?_)
  simp only [argT, Nat.reduceAdd, eB, eM, eWS]
  refine ev_seq fun K1 h1 => ?_
  refine ev_rf mB ?_
  iterate 4 refine dr_act wN mb ma mc mT mR ?_
  refine dr_nil (h1 _ ?_); clear h1
  refine ev_seq fun K1 h1 => ?_
  refine ev_seq fun K2 h2 => ?_
  refine ev_rf mB ?_
  refine dr_act wN mb ma mc mT mR ?_
  refine dr_callF wN mr mb mx mr (c139 d mh mh mh) (Nat.le_of_ble_eq_true rfl) mv mT mN ?_
  refine dr_act wN mb ma mc mT mR ?_
  refine dr_nil (h2 _ ?_); clear h2
  rw [show (okD d) = true from hk]
  refine ev_cond false mlq (fun hz => by cases hz) (fun hz => ?_)
  refine ev_skip (h1 _ ?_); clear h1
  refine ev_seq fun K1 h1 => ?_
  refine ev_rf mB ?_
  refine dr_act wN mb ma mc mT mR ?_
  refine dr_callF wN mr mb mx mr (c140 d mh mh mh) (Nat.le_of_ble_eq_true rfl) mv mT mN ?_
  iterate 2 refine dr_act wN mb ma mc mT mR ?_
  refine dr_nil (h1 _ ?_); clear h1
  refine ev_seq fun K1 h1 => ?_
  refine ev_seq fun K2 h2 => ?_
  refine ev_rf mB ?_
  refine dr_act wN mb ma mc mT mR ?_
  refine dr_callR [72, 64, 65] [] wN mr mbq mx (c141s d x d' mh mh) (.ren rfl rfl (.ren rfl rfl .nil)) ⟨⟨_, rfl, rfl, rfl, rfl, rfl⟩, ⟨_, mr, rfl, rfl, rnMap (fun _ => rfl) _, okMM⟩, ⟨_, mr, rfl, rfl, rnMap (fun _ => rfl) _, okMap (fun _ => rfl) _⟩, trivial⟩ ⟨⟨by decide, nz⟩, Nat.le_of_ble_eq_true rfl⟩ (v := vb true) rfl mT mRR2 ?_
  refine dr_act wN mb ma mc mT mR ?_
  refine dr_nil (h2 _ ?_); clear h2
  refine ev_cond false mlq (fun hz => by cases hz) (fun hz => ?_)
  refine ev_skip (h1 _ ?_); clear h1
  refine ev_seq fun K1 h1 => ?_
  refine ev_rf mB ?_
  iterate 3 refine dr_act wN mb ma mc mT mR ?_
  refine dr_nil (h1 _ ?_); clear h1
  refine ev_ret ?_
  exact retL [96, 97] (res' := [.cell 4 116, .tmp 5]) mr (.cell nT mZ ma mc mP (.tmp nT mL .nil)) rfl mr (by decide) ⟨⟨mr, (pure_map fun _ => by first | rfl | simp [pcell])⟩, ⟨mr, (pure_map fun _ => by first | rfl | simp [pcell])⟩, trivial⟩

theorem c73 (d : Dk) (x : Dl) (hl1 : d.m.length ≤ 1048576) (hl2 : ∀ r, r ∈ d.m → r.length ≤ 1048576) (hw : d.ws.length ≤ 1048576) : Good Try.prog 73 [eD d, eDl x] (.tup [oD 0 (uD (dealO d x)), vb (dealO d x).isSome]) [rM (uD (dealO d x)).m, rWS (uD (dealO d x)).ws] := by
  cases hk : okD d
  · rw [dealO_no hk]; exact c73f d x hl1 hl2 hw hk
  rw [dealO_ok hk]
  cases he : doD d x with
  | none => exact c73n d x hl1 hl2 hw hk he
  | some d' => exact c73s d x d' hl1 hl2 hw hk he
end Go.Ev
namespace Go.Ev
open Go Go.RowKit Go.Proofs

abbrev dlz : Dl := ⟨0, 0, 0, 0⟩
abbrev cDl (x : Dl) : List V := [vi x.t, vi x.a, vi x.b, vi x.c]
abbrev eDls (xs : List Dl) : V := .list 4 (xs.map cDl)
abbrev rDl (xs : List Dl) : Root := ⟨120, 4, xs.map cDl⟩
def szX (n : Nat) (k : Int) : Int := if k - (n : Int) < 0 then -1 else k - (n : Int)
theorem qDl_self {x : Dl} : qDl x x = true := by simp [qDl]

theorem c77 (xs : List Dl) (k : Int) (hx : xs.length ≤ maxLen) (h0 : 0 ≤ k ∧ k ≤ 1048576) : Good Try.prog 77 [eDls xs, vi k] (vi (szX xs.length k)) [] := by
  refine good_of (E := En 12) (fn := Try.f77) (by kernel_rfl) (by kernel_rfl) rfl rfl (by simp only [List.length_cons, List.length_nil]; decide) (fun C0 => ?_)
  simp only [argT, Nat.reduceAdd, eB, eM, eWS]
  simp only [maxLen] at hx
  refine ev_seq fun K1 h1 => ?_
  refine ev_rf mB ?_
  refine dr_act wN mb ma mc mT mR ?_
  refine dr_nil (h1 _ ?_); clear h1
  refine ev_seq fun K1 h1 => ?_
  refine ev_rf mB ?_
  iterate 4 refine dr_act wN mb ma mc mT mR ?_
  rw [wrap_of (x := k - (xs.length : Int)) (by omega) (by omega)]
  refine dr_act wN mb ma mc mT mR ?_
  refine dr_nil (h1 _ ?_); clear h1
  refine ev_seq fun K1 h1 => ?_
  refine ev_seq fun K2 h2 => ?_
  refine ev_rf mB ?_
  iterate 2 refine dr_act wN mb ma mc mT mR ?_
  refine dr_nil (h2 _ ?_); clear h2
  cases hc1 : (decide ((k - (xs.length : Int)) < 0))
  rotate_left
  · have hc1 := of_decide_eq_true hc1
    refine ev_cond true mlq (fun hz => ?_) (fun hz => by cases hz)
    refine ev_seq fun K2 h2 => ?_
    refine ev_rf mB ?_
    refine dr_act wN mb ma mc mT mR ?_
    refine dr_nil (h2 _ ?_); clear h2
    refine ev_ret ?_
    exact retT [4] (hv := (by simp [szX, oneOf, *] <;> omega))
  have hc1 := of_decide_eq_false hc1
  refine ev_cond false mlq (fun hz => by cases hz) (fun hz => ?_)
  refine ev_skip (h1 _ ?_); clear h1
  refine ev_seq fun K1 h1 => ?_
  refine ev_rf mB ?_
  iterate 2 refine dr_act wN mb ma mc mT mR ?_
  refine dr_nil (h1 _ ?_); clear h1
  refine ev_ret ?_
  exact retT [4] (hv := (by simp [szX, oneOf, *] <;> omega))

theorem c79 (xs : List Dl) (hx : xs.length ≤ 1048576) : Good Try.prog 79 [eDls xs] (.ref (0, none) 0 xs.length) [rDl xs] := by
  refine good_of (E := En 23) (fn := Try.f79) (by kernel_rfl) (by kernel_rfl) rfl rfl (by simp only [List.length_cons, List.length_nil]; decide) (fun C0 => ?_)
  simp only [argT, Nat.reduceAdd, eB, eM, eWS]
  refine ev_seq fun K1 h1 => ?_
  refine ev_rf mB ?_
  refine dr_act wN mb ma mc mT mR ?_
  refine dr_nil (h1 _ ?_); clear h1
  refine ev_seq fun K1 h1 => ?_
  refine ev_rf mB ?_
  iterate 2 refine dr_act wN mb ma mc mT mR ?_
  refine dr_mk cDl dlz (nn := xs.length) wN mr mb ⟨ml, ml⟩ mA (by omega) mA mr mT mR ?_
  refine dr_act wN mb ma mc mT mR ?_
  refine dr_nil (h1 _ ?_); clear h1
  refine ev_seq fun K1 h1 => ?_
  refine ev_seq fun K2 h2 => ?_
  refine ev_rf mB ?_
  refine dr_act wN mb ma mc mT mR ?_
  refine dr_nil (h2 _ ?_); clear h2
  rw [← soFar_zero]
  refine ev_block (ev_loop (α := {p : Nat // p ≤ xs.length}) (fun p => ⟨[(0, .list 4 (xs.map cDl)), (2, .val (.slice none 0 0)), (3, .ref (24, none) 0 xs.length), (4, vi (p.1 : Int))], [(24, ⟨120, 4, (soFar dlz xs p.1).map cDl⟩)], 48⟩) (fun p => xs.length - p.1) ⟨0, Nat.zero_le _⟩ (weak_ren [] mK (chkRm rfl (by decide) rfl (fun _ => rfl) (fun a => by first | rfl | simp [okC]) trivial) mD mQ) (fun ⟨i, hinv⟩ => ?_))
  dsimp only
  have hfl := soFar_length (z := dlz) hinv
  refine ev_seq fun K2 h2 => ?_
  refine ev_seq fun K3 h3 => ?_
  refine ev_rf mB ?_
  iterate 4 refine dr_act wN mb ma mc mT mR ?_
  refine dr_nil (h3 _ ?_); clear h3
  cases hc1 : (decide ((i : Int) < (xs.length : Int)))
  · have hc1 := of_decide_eq_false hc1
    refine ev_cond false mlq (fun hz => by cases hz) (fun hz => ?_)
    refine ev_exit ?_
    simp only [seqK, loopK, blkK, Nat.reduceEqDiff, ↓reduceIte]
    refine h1 _ ?_; clear h1
    rw [show i = xs.length from by omega, soFar_full]
    refine ev_seq fun K1 h1 => ?_
    refine ev_rf mB ?_
    iterate 2 refine dr_act wN mb ma mc mT mR ?_
    refine dr_nil (h1 _ ?_); clear h1
    refine ev_ret ?_
    exact retL [24] (res' := [.tmp 2]) mr (.tmp nT mL .nil) rfl mr (by decide) ⟨⟨mr, (pure_map fun _ => by first | rfl | simp [pcell])⟩, trivial⟩
  have hc1 := of_decide_eq_true hc1
  refine ev_cond true mlq (fun hz => ?_) (fun hz => by cases hz)
  refine ev_skip (h2 _ ?_); clear h2
  refine ev_seq fun K2 h2 => ?_
  refine ev_block ?_
  refine ev_rf mB ?_
  iterate 4 refine dr_act wN mb ma mc mT mR ?_
  refine dr_ix (dlz : Dl) wN mr mb ml ml mS (by omega) mT ?_
  rw [Int.toNat_natCast]
  refine dr_act wN mb ma mc mT mR ?_
  refine dr_callF wN mr mb mx mr (c72 (xs.getD i dlz)) (Nat.le_of_ble_eq_true rfl) mv mT mN ?_
  refine dr_ixp wN mr mb ml ml mr mS (by omega) (ik := i) (by omega) mT ?_
  refine dr_stp (r' := ⟨120, 4, ((soFar dlz xs i).set i (xs.getD i dlz)).map cDl⟩) wN mr mb ml mr mr ml ⟨rfl, mlz⟩ mA ⟨(by rw [List.length_map]; omega), mA⟩ (set_put dlz (by omega) rfl) rfl mT mR ?_
  refine dr_nil (h2 _ ?_); clear h2
  refine ev_rf mB ?_
  iterate 2 refine dr_act wN mb ma mc mT mR ?_
  rw [wrap_of (x := (i : Int) + 1) (by omega) (by omega)]
  refine dr_act wN mb ma mc mT mR ?_
  refine dr_nil ?_
  refine ⟨⟨i + 1, by omega⟩, by dsimp only; omega, ?_⟩
  rw [soFar_set (by omega)]
  exact weak_ren [] mK (chkRm rfl (by decide) rfl (fun _ => rfl) (fun a => by first | rfl | simp [okC]) trivial) mD mQ

theorem c81s (xs : List Dl) (hx : xs.length ≤ 1048576) : Good Try.prog 81 [eDls xs, eDls xs] (vb true) [] := by
  refine good_of (E := En 27) (fn := Try.f81) (by kernel_rfl) (by kernel_rfl) rfl rfl (by simp only [List.length_cons, List.length_nil]; decide) (fun C0 => ?_)
  simp only [argT, Nat.reduceAdd, eB, eM, eWS]
  refine ev_seq fun K1 h1 => ?_
  refine ev_rf mB ?_
  refine dr_act wN mb ma mc mT mR ?_
  refine dr_nil (h1 _ ?_); clear h1
  refine ev_seq fun K1 h1 => ?_
  refine ev_seq fun K2 h2 => ?_
  refine ev_rf mB ?_
  iterate 5 refine dr_act wN mb ma mc mT mR ?_
  refine dr_nil (h2 _ ?_); clear h2
  rw [show ((xs.length : Int) != (xs.length : Int)) = false from bne_self_eq_false _]
  refine ev_cond false mlq (fun hz => by cases hz) (fun hz => ?_)
  refine ev_skip (h1 _ ?_); clear h1
  refine ev_seq fun K1 h1 => ?_
  refine ev_seq fun K2 h2 => ?_
  refine ev_rf mB ?_
  refine dr_act wN mb ma mc mT mR ?_
  refine dr_nil (h2 _ ?_); clear h2
  refine ev_block (ev_loop (α := {p : Nat // p ≤ xs.length}) (fun p => ⟨[(0, .list 4 (xs.map cDl)), (1, .list 4 (xs.map cDl)), (4, vb false), (5, vi (p.1 : Int))], [], 56⟩) (fun p => xs.length - p.1) ⟨0, Nat.zero_le _⟩ (weak_ren [] mK mK mD mQ) (fun ⟨i, hinv⟩ => ?_))
  dsimp only
  refine ev_seq fun K2 h2 => ?_
  refine ev_seq fun K3 h3 => ?_
  refine ev_rf mB ?_
  iterate 4 refine dr_act wN mb ma mc mT mR ?_
  refine dr_nil (h3 _ ?_); clear h3
  cases hc1 : (decide ((i : Int) < (xs.length : Int)))
  · have hc1 := of_decide_eq_false hc1
    refine ev_cond false mlq (fun hz => by cases hz) (fun hz => ?_)
    refine ev_exit ?_
    simp only [seqK, loopK, blkK, Nat.reduceEqDiff, ↓reduceIte]
    refine h1 _ ?_; clear h1
    refine ev_seq fun K1 h1 => ?_
    refine ev_rf mB ?_
    refine dr_act wN mb ma mc mT mR ?_
    refine dr_nil (h1 _ ?_); clear h1
    refine ev_ret ?_
    exact retT [4] (hv := rfl)
  have hc1 := of_decide_eq_true hc1
  refine ev_cond true mlq (fun hz => ?_) (fun hz => by cases hz)
  refine ev_skip (h2 _ ?_); clear h2
  refine ev_seq fun K2 h2 => ?_
  refine ev_block ?_
  refine ev_seq fun K3 h3 => ?_
  refine ev_reg mB ?_
  iterate 2 refine dr_act wN mb ma mc mT mR ?_
  refine dr_ix (dlz : Dl) wN mr mb ml ml mS (by omega) mT ?_
  rw [Int.toNat_natCast]
  iterate 3 refine dr_act wN mb ma mc mT mR ?_
  refine dr_ix (dlz : Dl) wN mr mb ml ml mS (by omega) mT ?_
  rw [Int.toNat_natCast]
  refine dr_act wN mb ma mc mT mR ?_
  refine dr_callF wN mr mb mx mr (c143 (xs.getD i dlz) (xs.getD i dlz)) (Nat.le_of_ble_eq_true rfl) mv mT mN ?_
  refine dr_act wN mb ma mc mT mR ?_
  refine dr_nil ⟨fun _ => by kernel_rfl, h3 _ ?_⟩; clear h3
  rw [show (qDl (xs.getD i dlz) (xs.getD i dlz)) = true from qDl_self]
  refine ev_cond false mlq (fun hz => by cases hz) (fun hz => ?_)
  refine ev_skip (h2 _ ?_); clear h2
  refine ev_rf mB ?_
  iterate 2 refine dr_act wN mb ma mc mT mR ?_
  rw [wrap_of (x := (i : Int) + 1) (by omega) (by omega)]
  refine dr_act wN mb ma mc mT mR ?_
  refine dr_nil ?_
  refine ⟨⟨i + 1, by omega⟩, by dsimp only; omega, ?_⟩
  exact weak_ren [] mK mK mD mQ

theorem c82 (xs : List Dl) (k : Int) (hx : xs.length ≤ 1048576) (hk : 0 ≤ k ∧ k ≤ 20000000) : GoodR Try.prog 82 [.ref (0, none) 0 xs.length, vi k] [rDl xs] (vi (k + 4 * (xs.length : Nat))) [none] := by
  refine goodR_of (E := En 41 1) (fn := Try.f82) (by kernel_rfl) (by kernel_rfl) rfl rfl (by simp only [List.length_cons, List.length_nil]; decide) ⟨rfl, by simp only [List.length_cons, List.length_nil]; decide⟩ rfl trivial (fun C0 => ?_)
  simp only [argT, rsT, Nat.reduceAdd, List.length_cons, List.length_nil, eB, eM, eWS]
  refine ev_seq fun K1 h1 => ?_
  refine ev_rf mB ?_
  refine dr_act wN mb ma mc mT mR ?_
  refine dr_nil (h1 _ ?_); clear h1
  refine ev_seq fun K1 h1 => ?_
  refine ev_seq fun K2 h2 => ?_
  refine ev_rf mB ?_
  refine dr_act wN mb ma mc mT mR ?_
  refine dr_nil (h2 _ ?_); clear h2
  refine ev_block (ev_loop (α := {p : List Dl × Nat × Int // p.1.length = xs.length ∧ p.2.1 ≤ xs.length ∧ p.2.2 = k + 4 * (p.2.1 : Int)}) (fun p => ⟨[(0, .ref (0, none) 0 xs.length), (1, vi p.1.2.2), (4, vi 0), (5, vi (p.1.2.1 : Int))], [(0, ⟨120, 4, p.1.1.map cDl⟩)], 17⟩) (fun p => xs.length - p.1.2.1) ⟨(xs, 0, k), rfl, Nat.zero_le _, by dsimp only; omega⟩ (weak_ren [] mK (chkRm rfl (by decide) rfl (fun _ => rfl) (fun a => by first | rfl | simp [okC]) trivial) mD mQ) (fun ⟨(ys, i, j), hinv⟩ => ?_))
  dsimp only
  obtain ⟨hyl, hil, hj⟩ := hinv
  dsimp only at hyl hil hj
  refine ev_seq fun K2 h2 => ?_
  refine ev_seq fun K3 h3 => ?_
  refine ev_rf mB ?_
  iterate 4 refine dr_act wN mb ma mc mT mR ?_
  refine dr_nil (h3 _ ?_); clear h3
  cases hc1 : (decide ((i : Int) < (xs.length : Int)))
  · have hc1 := of_decide_eq_false hc1
    refine ev_cond false mlq (fun hz => by cases hz) (fun hz => ?_)
    refine ev_exit ?_
    simp only [seqK, loopK, blkK, Nat.reduceEqDiff, ↓reduceIte]
    refine h1 _ ?_; clear h1
    rw [show j = k + 4 * (xs.length : Nat) from by omega]
    refine ev_seq fun K1 h1 => ?_
    refine ev_rf mB ?_
    iterate 2 refine dr_act wN mb ma mc mT mR ?_
    refine dr_nil (h1 _ ?_); clear h1
    refine ev_ret ?_
    exact retLR [] (res' := [.tmp 4]) mr (.tmp nT mL .nil) rfl ⟨by decide, by decide⟩ rfl trivial
  have hc1 := of_decide_eq_true hc1
  refine ev_cond true mlq (fun hz => ?_) (fun hz => by cases hz)
  refine ev_skip (h2 _ ?_); clear h2
  refine ev_seq fun K2 h2 => ?_
  refine ev_block ?_
  refine ev_seq fun K3 h3 => ?_
  refine ev_rf mB ?_
  iterate 3 refine dr_act wN mb ma mc mT mR ?_
  refine dr_ixp wN mr mb ml ml mr mS (by omega) (ik := i) (by omega) mT ?_
  refine dr_act wN mb ma mc mT mR ?_
  refine dr_stp (r' := ⟨120, 4, (ys.set i ⟨j, (ys.getD i dlz).a, (ys.getD i dlz).b, (ys.getD i dlz).c⟩).map cDl⟩) wN mr mb ml mr mr ml ⟨rfl, mlz⟩ mA ⟨(by rw [List.length_map]; omega), mA⟩ (set_put dlz (by omega) rfl) rfl mT mR ?_
  refine dr_nil (h3 _ ?_); clear h3
  refine ev_seq fun K3 h3 => ?_
  refine ev_rf mB ?_
  iterate 2 refine dr_act wN mb ma mc mT mR ?_
  rw [wrap_of (x := j + 1) (by omega) (by omega)]
  refine dr_act wN mb ma mc mT mR ?_
  refine dr_nil (h3 _ ?_); clear h3
  refine ev_seq fun K3 h3 => ?_
  refine ev_rf mB ?_
  iterate 3 refine dr_act wN mb ma mc mT mR ?_
  refine dr_ixp wN mr mb ml ml mr mS (by omega) (ik := i) (by omega) mT ?_
  refine dr_act wN mb ma mc mT mR ?_
  refine dr_stp (r' := ⟨120, 4, ((ys.set i ⟨j, (ys.getD i dlz).a, (ys.getD i dlz).b, (ys.getD i dlz).c⟩).set i ⟨((ys.set i ⟨j, (ys.getD i dlz).a, (ys.getD i dlz).b, (ys.getD i dlz).c⟩).getD i dlz).t, j + 1, ((ys.set i ⟨j, (ys.getD i dlz).a, (ys.getD i dlz).b, (ys.getD i dlz).c⟩).getD i dlz).b, ((ys.set i ⟨j, (ys.getD i dlz).a, (ys.getD i dlz).b, (ys.getD i dlz).c⟩).getD i dlz).c⟩).map cDl⟩) wN mr mb ml mr mr ml ⟨rfl, mlz⟩ mA ⟨(by simp only [List.length_map, List.length_set]; omega), mA⟩ (set_put dlz (by simp only [List.length_set]; omega) rfl) rfl mT mR ?_
  refine dr_nil (h3 _ ?_); clear h3
  refine ev_seq fun K3 h3 => ?_
  refine ev_rf mB ?_
  iterate 2 refine dr_act wN mb ma mc mT mR ?_
  rw [wrap_of (x := (j + 1) + 1) (by omega) (by omega)]
  refine dr_act wN mb ma mc mT mR ?_
  refine dr_nil (h3 _ ?_); clear h3
  refine ev_seq fun K3 h3 => ?_
  refine ev_rf mB ?_
  iterate 3 refine dr_act wN mb ma mc mT mR ?_
  refine dr_ixp wN mr mb ml ml mr mS (by omega) (ik := i) (by omega) mT ?_
  refine dr_act wN mb ma mc mT mR ?_
  refine dr_stp (r' := ⟨120, 4, (((ys.set i ⟨j, (ys.getD i dlz).a, (ys.getD i dlz).b, (ys.getD i dlz).c⟩).set i ⟨((ys.set i ⟨j, (ys.getD i dlz).a, (ys.getD i dlz).b, (ys.getD i dlz).c⟩).getD i dlz).t, j + 1, ((ys.set i ⟨j, (ys.getD i dlz).a, (ys.getD i dlz).b, (ys.getD i dlz).c⟩).getD i dlz).b, ((ys.set i ⟨j, (ys.getD i dlz).a, (ys.getD i dlz).b, (ys.getD i dlz).c⟩).getD i dlz).c⟩).set i ⟨(((ys.set i ⟨j, (ys.getD i dlz).a, (ys.getD i dlz).b, (ys.getD i dlz).c⟩).set i ⟨((ys.set i ⟨j, (ys.getD i dlz).a, (ys.getD i dlz).b, (ys.getD i dlz).c⟩).getD i dlz).t, j + 1, ((ys.set i ⟨j, (ys.getD i dlz).a, (ys.getD i dlz).b, (ys.getD i dlz).c⟩).getD i dlz).b, ((ys.set i ⟨j, (ys.getD i dlz).a, (ys.getD i dlz).b, (ys.getD i dlz).c⟩).getD i dlz).c⟩).getD i dlz).t, (((ys.set i ⟨j, (ys.getD i dlz).a, (ys.getD i dlz).b, (ys.getD i dlz).c⟩).set i ⟨((ys.set i ⟨j, (ys.getD i dlz).a, (ys.getD i dlz).b, (ys.getD i dlz).c⟩).getD i dlz).t, j + 1, ((ys.set i ⟨j, (ys.getD i dlz).a, (ys.getD i dlz).b, (ys.getD i dlz).c⟩).getD i dlz).b, ((ys.set i ⟨j, (ys.getD i dlz).a, (ys.getD i dlz).b, (ys.getD i dlz).c⟩).getD i dlz).c⟩).getD i dlz).a, (j + 1) + 1, (((ys.set i ⟨j, (ys.getD i dlz).a, (ys.getD i dlz).b, (ys.getD i dlz).c⟩).set i ⟨((ys.set i ⟨j, (ys.getD i dlz).a, (ys.getD i dlz).b, (ys.getD i dlz).c⟩).getD i dlz).t, j + 1, ((ys.set i ⟨j, (ys.getD i dlz).a, (ys.getD i dlz).b, (ys.getD i dlz).c⟩).getD i dlz).b, ((ys.set i ⟨j, (ys.getD i dlz).a, (ys.getD i dlz).b, (ys.getD i dlz).c⟩).getD i dlz).c⟩).getD i dlz).c⟩).map cDl⟩) wN mr mb ml mr mr ml ⟨rfl, mlz⟩ mA ⟨(by simp only [List.length_map, List.length_set]; omega), mA⟩ (set_put dlz (by simp only [List.length_set]; omega) rfl) rfl mT mR ?_
  refine dr_nil (h3 _ ?_); clear h3
  refine ev_seq fun K3 h3 => ?_
  refine ev_rf mB ?_
  iterate 2 refine dr_act wN mb ma mc mT mR ?_
  rw [wrap_of (x := ((j + 1) + 1) + 1) (by omega) (by omega)]
  refine dr_act wN mb ma mc mT mR ?_
  refine dr_nil (h3 _ ?_); clear h3
  refine ev_seq fun K3 h3 => ?_
  refine ev_rf mB ?_
  iterate 3 refine dr_act wN mb ma mc mT mR ?_
  refine dr_ixp wN mr mb ml ml mr mS (by omega) (ik := i) (by omega) mT ?_
  refine dr_act wN mb ma mc mT mR ?_
  refine dr_stp (r' := ⟨120, 4, ((((ys.set i ⟨j, (ys.getD i dlz).a, (ys.getD i dlz).b, (ys.getD i dlz).c⟩).set i ⟨((ys.set i ⟨j, (ys.getD i dlz).a, (ys.getD i dlz).b, (ys.getD i dlz).c⟩).getD i dlz).t, j + 1, ((ys.set i ⟨j, (ys.getD i dlz).a, (ys.getD i dlz).b, (ys.getD i dlz).c⟩).getD i dlz).b, ((ys.set i ⟨j, (ys.getD i dlz).a, (ys.getD i dlz).b, (ys.getD i dlz).c⟩).getD i dlz).c⟩).set i ⟨(((ys.set i ⟨j, (ys.getD i dlz).a, (ys.getD i dlz).b, (ys.getD i dlz).c⟩).set i ⟨((ys.set i ⟨j, (ys.getD i dlz).a, (ys.getD i dlz).b, (ys.getD i dlz).c⟩).getD i dlz).t, j + 1, ((ys.set i ⟨j, (ys.getD i dlz).a, (ys.getD i dlz).b, (ys.getD i dlz).c⟩).getD i dlz).b, ((ys.set i ⟨j, (ys.getD i dlz).a, (ys.getD i dlz).b, (ys.getD i dlz).c⟩).getD i dlz).c⟩).getD i dlz).t, (((ys.set i ⟨j, (ys.getD i dlz).a, (ys.getD i dlz).b, (ys.getD i dlz).c⟩).set i ⟨((ys.set i ⟨j, (ys.getD i dlz).a, (ys.getD i dlz).b, (ys.getD i dlz).c⟩).getD i dlz).t, j + 1, ((ys.set i ⟨j, (ys.getD i dlz).a, (ys.getD i dlz).b, (ys.getD i dlz).c⟩).getD i dlz).b, ((ys.set i ⟨j, (ys.getD i dlz).a, (ys.getD i dlz).b, (ys.getD i dlz).c⟩).getD i dlz).c⟩).getD i dlz).a, (j + 1) + 1, (((ys.set i ⟨j, (ys.getD i dlz).a, (ys.getD i dlz).b, (ys.getD i dlz).c⟩).set i ⟨((ys.set i ⟨j, (ys.getD i dlz).a, (ys.getD i dlz).b, (ys.getD i dlz).c⟩).getD i dlz).t, j + 1, ((ys.set i ⟨j, (ys.getD i dlz).a, (ys.getD i dlz).b, (ys.getD i dlz).c⟩).getD i dlz).b, ((ys.set i ⟨j, (ys.getD i dlz).a, (ys.getD i dlz).b, (ys.getD i dlz).c⟩).getD i dlz).c⟩).getD i dlz).c⟩).set i ⟨((((ys.set i ⟨j, (ys.getD i dlz).a, (ys.getD i dlz).b, (ys.getD i dlz).c⟩).set i ⟨((ys.set i ⟨j, (ys.getD i dlz).a, (ys.getD i dlz).b, (ys.getD i dlz).c⟩).getD i dlz).t, j + 1, ((ys.set i ⟨j, (ys.getD i dlz).a, (ys.getD i dlz).b, (ys.getD i dlz).c⟩).getD i dlz).b, ((ys.set i ⟨j, (ys.getD i dlz).a, (ys.getD i dlz).b, (ys.getD i dlz).c⟩).getD i dlz).c⟩).set i ⟨(((ys.set i ⟨j, (ys.getD i dlz).a, (ys.getD i dlz).b, (ys.getD i dlz).c⟩).set i ⟨((ys.set i ⟨j, (ys.getD i dlz).a, (ys.getD i dlz).b, (ys.getD i dlz).c⟩).getD i dlz).t, j + 1, ((ys.set i ⟨j, (ys.getD i dlz).a, (ys.getD i dlz).b, (ys.getD i dlz).c⟩).getD i dlz).b, ((ys.set i ⟨j, (ys.getD i dlz).a, (ys.getD i dlz).b, (ys.getD i dlz).c⟩).getD i dlz).c⟩).getD i dlz).t, (((ys.set i ⟨j, (ys.getD i dlz).a, (ys.getD i dlz).b, (ys.getD i dlz).c⟩).set i ⟨((ys.set i ⟨j, (ys.getD i dlz).a, (ys.getD i dlz).b, (ys.getD i dlz).c⟩).getD i dlz).t, j + 1, ((ys.set i ⟨j, (ys.getD i dlz).a, (ys.getD i dlz).b, (ys.getD i dlz).c⟩).getD i dlz).b, ((ys.set i ⟨j, (ys.getD i dlz).a, (ys.getD i dlz).b, (ys.getD i dlz).c⟩).getD i dlz).c⟩).getD i dlz).a, (j + 1) + 1, (((ys.set i ⟨j, (ys.getD i dlz).a, (ys.getD i dlz).b, (ys.getD i dlz).c⟩).set i ⟨((ys.set i ⟨j, (ys.getD i dlz).a, (ys.getD i dlz).b, (ys.getD i dlz).c⟩).getD i dlz).t, j + 1, ((ys.set i ⟨j, (ys.getD i dlz).a, (ys.getD i dlz).b, (ys.getD i dlz).c⟩).getD i dlz).b, ((ys.set i ⟨j, (ys.getD i dlz).a, (ys.getD i dlz).b, (ys.getD i dlz).c⟩).getD i dlz).c⟩).getD i dlz).c⟩).getD i dlz).t, ((((ys.set i ⟨j, (ys.getD i dlz).a, (ys.getD i dlz).b, (ys.getD i dlz).c⟩).set i ⟨((ys.set i ⟨j, (ys.getD i dlz).a, (ys.getD i dlz).b, (ys.getD i dlz).c⟩).getD i dlz).t, j + 1, ((ys.set i ⟨j, (ys.getD i dlz).a, (ys.getD i dlz).b, (ys.getD i dlz).c⟩).getD i dlz).b, ((ys.set i ⟨j, (ys.getD i dlz).a, (ys.getD i dlz).b, (ys.getD i dlz).c⟩).getD i dlz).c⟩).set i ⟨(((ys.set i ⟨j, (ys.getD i dlz).a, (ys.getD i dlz).b, (ys.getD i dlz).c⟩).set i ⟨((ys.set i ⟨j, (ys.getD i dlz).a, (ys.getD i dlz).b, (ys.getD i dlz).c⟩).getD i dlz).t, j + 1, ((ys.set i ⟨j, (ys.getD i dlz).a, (ys.getD i dlz).b, (ys.getD i dlz).c⟩).getD i dlz).b, ((ys.set i ⟨j, (ys.getD i dlz).a, (ys.getD i dlz).b, (ys.getD i dlz).c⟩).getD i dlz).c⟩).getD i dlz).t, (((ys.set i ⟨j, (ys.getD i dlz).a, (ys.getD i dlz).b, (ys.getD i dlz).c⟩).set i ⟨((ys.set i ⟨j, (ys.getD i dlz).a, (ys.getD i dlz).b, (ys.getD i dlz).c⟩).getD i dlz).t, j + 1, ((ys.set i ⟨j, (ys.getD i dlz).a, (ys.getD i dlz).b, (ys.getD i dlz).c⟩).getD i dlz).b, ((ys.set i ⟨j, (ys.getD i dlz).a, (ys.getD i dlz).b, (ys.getD i dlz).c⟩).getD i dlz).c⟩).getD i dlz).a, (j + 1) + 1, (((ys.set i ⟨j, (ys.getD i dlz).a, (ys.getD i dlz).b, (ys.getD i dlz).c⟩).set i ⟨((ys.set i ⟨j, (ys.getD i dlz).a, (ys.getD i dlz).b, (ys.getD i dlz).c⟩).getD i dlz).t, j + 1, ((ys.set i ⟨j, (ys.getD i dlz).a, (ys.getD i dlz).b, (ys.getD i dlz).c⟩).getD i dlz).b, ((ys.set i ⟨j, (ys.getD i dlz).a, (ys.getD i dlz).b, (ys.getD i dlz).c⟩).getD i dlz).c⟩).getD i dlz).c⟩).getD i dlz).a, ((((ys.set i ⟨j, (ys.getD i dlz).a, (ys.getD i dlz).b, (ys.getD i dlz).c⟩).set i ⟨((ys.set i ⟨j, (ys.getD i dlz).a, (ys.getD i dlz).b, (ys.getD i dlz).c⟩).getD i dlz).t, j + 1, ((ys.set i ⟨j, (ys.getD i dlz).a, (ys.getD i dlz).b, (ys.getD i dlz).c⟩).getD i dlz).b, ((ys.set i ⟨j, (ys.getD i dlz).a, (ys.getD i dlz).b, (ys.getD i dlz).c⟩).getD i dlz).c⟩).set i ⟨(((ys.set i ⟨j, (ys.getD i dlz).a, (ys.getD i dlz).b, (ys.getD i dlz).c⟩).set i ⟨((ys.set i ⟨j, (ys.getD i dlz).a, (ys.getD i dlz).b, (ys.getD i dlz).c⟩).getD i dlz).t, j + 1, ((ys.set i ⟨j, (ys.getD i dlz).a, (ys.getD i dlz).b, (ys.getD i dlz).c⟩).getD i dlz).b, ((ys.set i ⟨j, (ys.getD i dlz).a, (ys.getD i dlz).b, (ys.getD i dlz).c⟩).getD i dlz).c⟩).getD i dlz).t, (((ys.set i ⟨j, (ys.getD i dlz).a, (ys.getD i dlz).b, (ys.getD i dlz).c⟩).set i ⟨((ys.set i ⟨j, (ys.getD i dlz).a, (ys.getD i dlz).b, (ys.getD i dlz).c⟩).getD i dlz).t, j + 1, ((ys.set i ⟨j, (ys.getD i dlz).a, (ys.getD i dlz).b, (ys.getD i dlz).c⟩).getD i dlz).b, ((ys.set i ⟨j, (ys.getD i dlz).a, (ys.getD i dlz).b, (ys.getD i dlz).c⟩).getD i dlz).c⟩).getD i dlz).a, (j + 1) + 1, (((ys.set i ⟨j, (ys.getD i dlz).a, (ys.getD i dlz).b, (ys.getD i dlz).c⟩).set i ⟨((ys.set i ⟨j, (ys.getD i dlz).a, (ys.getD i dlz).b, (ys.getD i dlz).c⟩).getD i dlz).t, j + 1, ((ys.set i ⟨j, (ys.getD i dlz).a, (ys.getD i dlz).b, (ys.getD i dlz).c⟩).getD i dlz).b, ((ys.set i ⟨j, (ys.getD i dlz).a, (ys.getD i dlz).b, (ys.getD i dlz).c⟩).getD i dlz).c⟩).getD i dlz).c⟩).getD i dlz).b, ((j + 1) + 1) + 1⟩).map cDl⟩) wN mr mb ml mr mr ml ⟨rfl, mlz⟩ mA ⟨(by simp only [List.length_map, List.length_set]; omega), mA⟩ (set_put dlz (by simp only [List.length_set]; omega) rfl) rfl mT mR ?_
  refine dr_nil (h3 _ ?_); clear h3
  refine ev_rf mB ?_
  iterate 2 refine dr_act wN mb ma mc mT mR ?_
  rw [wrap_of (x := (((j + 1) + 1) + 1) + 1) (by omega) (by omega)]
  refine dr_act wN mb ma mc mT mR ?_
  refine dr_nil (h2 _ ?_); clear h2
  refine ev_rf mB ?_
  iterate 2 refine dr_act wN mb ma mc mT mR ?_
  rw [wrap_of (x := (i : Int) + 1) (by omega) (by omega)]
  refine dr_act wN mb ma mc mT mR ?_
  refine dr_nil ?_
  refine ⟨⟨((((ys.set i ⟨j, (ys.getD i dlz).a, (ys.getD i dlz).b, (ys.getD i dlz).c⟩).set i ⟨((ys.set i ⟨j, (ys.getD i dlz).a, (ys.getD i dlz).b, (ys.getD i dlz).c⟩).getD i dlz).t, j + 1, ((ys.set i ⟨j, (ys.getD i dlz).a, (ys.getD i dlz).b, (ys.getD i dlz).c⟩).getD i dlz).b, ((ys.set i ⟨j, (ys.getD i dlz).a, (ys.getD i dlz).b, (ys.getD i dlz).c⟩).getD i dlz).c⟩).set i ⟨(((ys.set i ⟨j, (ys.getD i dlz).a, (ys.getD i dlz).b, (ys.getD i dlz).c⟩).set i ⟨((ys.set i ⟨j, (ys.getD i dlz).a, (ys.getD i dlz).b, (ys.getD i dlz).c⟩).getD i dlz).t, j + 1, ((ys.set i ⟨j, (ys.getD i dlz).a, (ys.getD i dlz).b, (ys.getD i dlz).c⟩).getD i dlz).b, ((ys.set i ⟨j, (ys.getD i dlz).a, (ys.getD i dlz).b, (ys.getD i dlz).c⟩).getD i dlz).c⟩).getD i dlz).t, (((ys.set i ⟨j, (ys.getD i dlz).a, (ys.getD i dlz).b, (ys.getD i dlz).c⟩).set i ⟨((ys.set i ⟨j, (ys.getD i dlz).a, (ys.getD i dlz).b, (ys.getD i dlz).c⟩).getD i dlz).t, j + 1, ((ys.set i ⟨j, (ys.getD i dlz).a, (ys.getD i dlz).b, (ys.getD i dlz).c⟩).getD i dlz).b, ((ys.set i ⟨j, (ys.getD i dlz).a, (ys.getD i dlz).b, (ys.getD i dlz).c⟩).getD i dlz).c⟩).getD i dlz).a, (j + 1) + 1, (((ys.set i ⟨j, (ys.getD i dlz).a, (ys.getD i dlz).b, (ys.getD i dlz).c⟩).set i ⟨((ys.set i ⟨j, (ys.getD i dlz).a, (ys.getD i dlz).b, (ys.getD i dlz).c⟩).getD i dlz).t, j + 1, ((ys.set i ⟨j, (ys.getD i dlz).a, (ys.getD i dlz).b, (ys.getD i dlz).c⟩).getD i dlz).b, ((ys.set i ⟨j, (ys.getD i dlz).a, (ys.getD i dlz).b, (ys.getD i dlz).c⟩).getD i dlz).c⟩).getD i dlz).c⟩).set i ⟨((((ys.set i ⟨j, (ys.getD i dlz).a, (ys.getD i dlz).b, (ys.getD i dlz).c⟩).set i ⟨((ys.set i ⟨j, (ys.getD i dlz).a, (ys.getD i dlz).b, (ys.getD i dlz).c⟩).getD i dlz).t, j + 1, ((ys.set i ⟨j, (ys.getD i dlz).a, (ys.getD i dlz).b, (ys.getD i dlz).c⟩).getD i dlz).b, ((ys.set i ⟨j, (ys.getD i dlz).a, (ys.getD i dlz).b, (ys.getD i dlz).c⟩).getD i dlz).c⟩).set i ⟨(((ys.set i ⟨j, (ys.getD i dlz).a, (ys.getD i dlz).b, (ys.getD i dlz).c⟩).set i ⟨((ys.set i ⟨j, (ys.getD i dlz).a, (ys.getD i dlz).b, (ys.getD i dlz).c⟩).getD i dlz).t, j + 1, ((ys.set i ⟨j, (ys.getD i dlz).a, (ys.getD i dlz).b, (ys.getD i dlz).c⟩).getD i dlz).b, ((ys.set i ⟨j, (ys.getD i dlz).a, (ys.getD i dlz).b, (ys.getD i dlz).c⟩).getD i dlz).c⟩).getD i dlz).t, (((ys.set i ⟨j, (ys.getD i dlz).a, (ys.getD i dlz).b, (ys.getD i dlz).c⟩).set i ⟨((ys.set i ⟨j, (ys.getD i dlz).a, (ys.getD i dlz).b, (ys.getD i dlz).c⟩).getD i dlz).t, j + 1, ((ys.set i ⟨j, (ys.getD i dlz).a, (ys.getD i dlz).b, (ys.getD i dlz).c⟩).getD i dlz).b, ((ys.set i ⟨j, (ys.getD i dlz).a, (ys.getD i dlz).b, (ys.getD i dlz).c⟩).getD i dlz).c⟩).getD i dlz).a, (j + 1) + 1, (((ys.set i ⟨j, (ys.getD i dlz).a, (ys.getD i dlz).b, (ys.getD i dlz).c⟩).set i ⟨((ys.set i ⟨j, (ys.getD i dlz).a, (ys.getD i dlz).b, (ys.getD i dlz).c⟩).getD i dlz).t, j + 1, ((ys.set i ⟨j, (ys.getD i dlz).a, (ys.getD i dlz).b, (ys.getD i dlz).c⟩).getD i dlz).b, ((ys.set i ⟨j, (ys.getD i dlz).a, (ys.getD i dlz).b, (ys.getD i dlz).c⟩).getD i dlz).c⟩).getD i dlz).c⟩).getD i dlz).t, ((((ys.set i ⟨j, (ys.getD i dlz).a, (ys.getD i dlz).b, (ys.getD i dlz).c⟩).set i ⟨((ys.set i ⟨j, (ys.getD i dlz).a, (ys.getD i dlz).b, (ys.getD i dlz).c⟩).getD i dlz).t, j + 1, ((ys.set i ⟨j, (ys.getD i dlz).a, (ys.getD i dlz).b, (ys.getD i dlz).c⟩).getD i dlz).b, ((ys.set i ⟨j, (ys.getD i dlz).a, (ys.getD i dlz).b, (ys.getD i dlz).c⟩).getD i dlz).c⟩).set i ⟨(((ys.set i ⟨j, (ys.getD i dlz).a, (ys.getD i dlz).b, (ys.getD i dlz).c⟩).set i ⟨((ys.set i ⟨j, (ys.getD i dlz).a, (ys.getD i dlz).b, (ys.getD i dlz).c⟩).getD i dlz).t, j + 1, ((ys.set i ⟨j, (ys.getD i dlz).a, (ys.getD i dlz).b, (ys.getD i dlz).c⟩).getD i dlz).b, ((ys.set i ⟨j, (ys.getD i dlz).a, (ys.getD i dlz).b, (ys.getD i dlz).c⟩).getD i dlz).c⟩).getD i dlz).t, (((ys.set i ⟨j, (ys.getD i dlz).a, (ys.getD i dlz).b, (ys.getD i dlz).c⟩).set i ⟨((ys.set i ⟨j, (ys.getD i dlz).a, (ys.getD i dlz).b, (ys.getD i dlz).c⟩).getD i dlz).t, j + 1, ((ys.set i ⟨j, (ys.getD i dlz).a, (ys.getD i dlz).b, (ys.getD i dlz).c⟩).getD i dlz).b, ((ys.set i ⟨j, (ys.getD i dlz).a, (ys.getD i dlz).b, (ys.getD i dlz).c⟩).getD i dlz).c⟩).getD i dlz).a, (j + 1) + 1, (((ys.set i ⟨j, (ys.getD i dlz).a, (ys.getD i dlz).b, (ys.getD i dlz).c⟩).set i ⟨((ys.set i ⟨j, (ys.getD i dlz).a, (ys.getD i dlz).b, (ys.getD i dlz).c⟩).getD i dlz).t, j + 1, ((ys.set i ⟨j, (ys.getD i dlz).a, (ys.getD i dlz).b, (ys.getD i dlz).c⟩).getD i dlz).b, ((ys.set i ⟨j, (ys.getD i dlz).a, (ys.getD i dlz).b, (ys.getD i dlz).c⟩).getD i dlz).c⟩).getD i dlz).c⟩).getD i dlz).a, ((((ys.set i ⟨j, (ys.getD i dlz).a, (ys.getD i dlz).b, (ys.getD i dlz).c⟩).set i ⟨((ys.set i ⟨j, (ys.getD i dlz).a, (ys.getD i dlz).b, (ys.getD i dlz).c⟩).getD i dlz).t, j + 1, ((ys.set i ⟨j, (ys.getD i dlz).a, (ys.getD i dlz).b, (ys.getD i dlz).c⟩).getD i dlz).b, ((ys.set i ⟨j, (ys.getD i dlz).a, (ys.getD i dlz).b, (ys.getD i dlz).c⟩).getD i dlz).c⟩).set i ⟨(((ys.set i ⟨j, (ys.getD i dlz).a, (ys.getD i dlz).b, (ys.getD i dlz).c⟩).set i ⟨((ys.set i ⟨j, (ys.getD i dlz).a, (ys.getD i dlz).b, (ys.getD i dlz).c⟩).getD i dlz).t, j + 1, ((ys.set i ⟨j, (ys.getD i dlz).a, (ys.getD i dlz).b, (ys.getD i dlz).c⟩).getD i dlz).b, ((ys.set i ⟨j, (ys.getD i dlz).a, (ys.getD i dlz).b, (ys.getD i dlz).c⟩).getD i dlz).c⟩).getD i dlz).t, (((ys.set i ⟨j, (ys.getD i dlz).a, (ys.getD i dlz).b, (ys.getD i dlz).c⟩).set i ⟨((ys.set i ⟨j, (ys.getD i dlz).a, (ys.getD i dlz).b, (ys.getD i dlz).c⟩).getD i dlz).t, j + 1, ((ys.set i ⟨j, (ys.getD i dlz).a, (ys.getD i dlz).b, (ys.getD i dlz).c⟩).getD i dlz).b, ((ys.set i ⟨j, (ys.getD i dlz).a, (ys.getD i dlz).b, (ys.getD i dlz).c⟩).getD i dlz).c⟩).getD i dlz).a, (j + 1) + 1, (((ys.set i ⟨j, (ys.getD i dlz).a, (ys.getD i dlz).b, (ys.getD i dlz).c⟩).set i ⟨((ys.set i ⟨j, (ys.getD i dlz).a, (ys.getD i dlz).b, (ys.getD i dlz).c⟩).getD i dlz).t, j + 1, ((ys.set i ⟨j, (ys.getD i dlz).a, (ys.getD i dlz).b, (ys.getD i dlz).c⟩).getD i dlz).b, ((ys.set i ⟨j, (ys.getD i dlz).a, (ys.getD i dlz).b, (ys.getD i dlz).c⟩).getD i dlz).c⟩).getD i dlz).c⟩).getD i dlz).b, ((j + 1) + 1) + 1⟩, i + 1, j + 1 + 1 + 1 + 1), by simp only [List.length_set]; exact hyl, by dsimp only; omega, by dsimp only; omega⟩, by dsimp only; omega, ?_⟩
  exact weak_ren [] mK (chkRm rfl (by decide) rfl (fun _ => rfl) (fun a => by first | rfl | simp [okC]) trivial) mD mQ
end Go.Ev
namespace Go.Ev
open Go Go.RowKit Go.Proofs

/-- Deals one behind the other, as far as they go. -/
def goD : Dk → List Dl → Nat → Dk × Nat
  | d, [], i => (d, i)
  | d, x :: l, i => match doD d x with
    | some d' => goD d' l (i + 1)
    | none => (d, i)
def goO (d : Dk) (xs : List Dl) : (Dk × Int) × Bool := if okD d = true then (((goD d xs 0).1, ((goD d xs 0).2 : Nat)), true) else ((⟨[], [], 0⟩, 0), false)
theorem dropDl {xs : List Dl} {i : Nat} (h : i < xs.length) : xs.drop i = xs.getD i dlz :: xs.drop (i + 1) := by
  rw [List.drop_eq_getElem_cons h, List.getD_eq_getElem?_getD, List.getElem?_eq_getElem h]; rfl
theorem go_no {d : Dk} {xs : List Dl} (h : okD d = false) : goO d xs = ((⟨[], [], 0⟩, 0), false) := if_neg (by rw [h]; decide)
theorem go_stop {d s : Dk} {xs : List Dl} {i : Nat} (hd : okD d = true) (h : (i : Int) < xs.length) (hn : (doD s (xs.getD i dlz)).isSome = false) (hg : goD s (xs.drop i) i = goD d xs 0) : goO d xs = ((s, (i : Int)), true) := by
  rw [goO, if_pos hd, ← hg, dropDl (by omega), goD]
  cases e : doD s (xs.getD i dlz) with
  | none => rfl
  | some y => rw [e] at hn; cases hn
theorem go_end {d s : Dk} {xs : List Dl} {i : Nat} (hd : okD d = true) (h : i = xs.length) (hg : goD s (xs.drop i) i = goD d xs 0) : goO d xs = ((s, (xs.length : Int)), true) := by
  rw [goO, if_pos hd, ← hg, h, List.drop_length]; rfl
theorem go_step {d s : Dk} {xs : List Dl} {i : Nat} (h : (i : Int) < xs.length) (hn : (doD s (xs.getD i dlz)).isSome = true) (hg : goD s (xs.drop i) i = goD d xs 0) : okD (uD (doD s (xs.getD i dlz))) = true ∧ goD (uD (doD s (xs.getD i dlz))) (xs.drop (i + 1)) (i + 1) = goD d xs 0 := by
  cases e : doD s (xs.getD i dlz) with
  | none => rw [e] at hn; cases hn
  | some y =>
    refine ⟨?_, ?_⟩
    · have e' := e
      unfold doD at e'
      split at e'
      · rename_i hk; cases e'; exact hk.2
      · cases e'
    · have h2 : goD s (xs.drop i) i = goD y (xs.drop (i + 1)) (i + 1) := by rw [dropDl (i := i) (by omega), goD, e]
      exact h2.symm.trans hg
theorem c73d (d : Dk) (x : Dl) (hl1 : d.m.length ≤ 1048576) (hl2 : ∀ r, r ∈ d.m → r.length ≤ 1048576) (hw : d.ws.length ≤ 1048576) (hd : okD d = true) : Good Try.prog 73 [eD d, eDl x] (.tup [oD 0 (uD (doD d x)), vb (doD d x).isSome]) [rM (uD (doD d x)).m, rWS (uD (doD d x)).ws] := by
  have h := c73 d x hl1 hl2 hw
  rw [dealO_ok hd] at h
  exact h

theorem c78 (d : Dk) (xs : List Dl) (hl1 : d.m.length ≤ 1048576) (hl2 : ∀ r, r ∈ d.m → r.length ≤ 1048576) (hw : d.ws.length ≤ 1048576) (hx : xs.length ≤ 1048576) : Good Try.prog 78 [eD d, eDls xs] (.tup [oD 0 (goO d xs).1.1, vi (goO d xs).1.2, vb (goO d xs).2]) [rM (goO d xs).1.1.m, rWS (goO d xs).1.1.ws] := by
  refine good_of (E := En 40) (fn := Try.f78) (by kernel_rfl) (by kernel_rfl) rfl rfl (by simp only [List.length_cons, List.length_nil]; decide) (fun C0 => ?_)
  simp only [argT, Nat.reduceAdd, eB, eM, eWS]
  refine ev_seq fun K1 h1 => ?_
  refine ev_rf mB ?_
  iterate 4 refine dr_act wN mb ma mc mT mR ?_
  refine dr_nil (h1 _ ?_); clear h1
  refine ev_seq fun K1 h1 => ?_
  refine ev_seq fun K2 h2 => ?_
  refine ev_rf mB ?_
  refine dr_act wN mb ma mc mT mR ?_
  refine dr_callF wN mr mb mx mr (c137 d mh mh mh) (Nat.le_of_ble_eq_true rfl) mv mT mN ?_
  refine dr_act wN mb ma mc mT mR ?_
  refine dr_nil (h2 _ ?_); clear h2
  cases hc1 : (okD d)
  · refine ev_cond true mlq (fun hz => ?_) (fun hz => by cases hz)
    refine ev_seq fun K2 h2 => ?_
    refine ev_rf mB ?_
    iterate 4 refine dr_act wN mb ma mc mT mR ?_
    refine dr_nil (h2 _ ?_); clear h2
    refine ev_weak (weak_nil 8 0 0 29 1 mr mr mr mNl (by decide : 88 < 96)) ?_
    refine ev_weak (weak_nil 8 0 1 32 4 mr mr mr mNl (by decide : 96 < 104)) ?_
    refine ev_ret ?_
    rw [go_no (by assumption)]
    exact retL [88, 96] (res' := [.cell 4 116, .tmp 5, .tmp 6]) mr (.cell nT mZ ma mc mP (.tmp nT mL (.tmp nT mL .nil))) rfl mr (by decide) ⟨⟨mr, rfl⟩, ⟨mr, rfl⟩, trivial⟩
  refine ev_cond false mlq (fun hz => by cases hz) (fun hz => ?_)
  refine ev_skip (h1 _ ?_); clear h1
  refine ev_seq fun K1 h1 => ?_
  refine ev_rf mB ?_
  refine dr_act wN mb ma mc mT mR ?_
  refine dr_callF wN mr mb mx mr (c142 d mh mh mh) (Nat.le_of_ble_eq_true rfl) mv mT mN ?_
  iterate 2 refine dr_act wN mb ma mc mT mR ?_
  refine dr_nil (h1 _ ?_); clear h1
  refine ev_seq fun K1 h1 => ?_
  refine ev_seq fun K2 h2 => ?_
  refine ev_rf mB ?_
  refine dr_act wN mb ma mc mT mR ?_
  refine dr_nil (h2 _ ?_); clear h2
  refine ev_block (ev_loop (α := {p : Dk × Nat // okD p.1 = true ∧ p.2 ≤ xs.length ∧ goD p.1 (xs.drop p.2) p.2 = goD d xs 0}) (fun p => ⟨[(1, .list 4 (xs.map cDl)), (4, .ptr (8, none) 0 0), (5, vi 0), (6, vb false), (7, .ptr (72, none) 0 0), (8, vi (p.1.2 : Int))], [(8, ⟨116, 3, [[.val (.slice none 0 0), .val (.slice none 0 0), vi 0]]⟩), (72, ⟨116, 3, [[.ref (64, none) 0 p.1.1.m.length, .ref (65, none) 0 p.1.1.ws.length, vi p.1.1.k]]⟩), (64, ⟨29, 1, p.1.1.m.map cR⟩), (65, ⟨32, 4, p.1.1.ws.map cW⟩)], 96⟩) (fun p => xs.length - p.1.2) ⟨(d, 0), by assumption, Nat.zero_le _, by simp⟩ (weak_ren [] mK (chkR_cons mK (chkR_cons mK (chkRm rfl (by decide) rfl (fun _ => rfl) (fun a => by first | rfl | simp [okC]) (chkRm rfl (by decide) rfl (fun _ => rfl) (fun a => by first | rfl | simp [okC]) trivial)))) mD mQ) (fun ⟨(s, i), hinv⟩ => ?_))
  dsimp only
  obtain ⟨hs, hil, hg⟩ := hinv
  dsimp only at hs hil hg
  have hgs := okD_g hs
  have hs1 := hgs.l4
  have hs2 := hgs.r4
  have hrs := okD_r hs
  have hws : s.ws.length ≤ 1048576 := by have := hrs; omega
  refine ev_seq fun K2 h2 => ?_
  refine ev_seq fun K3 h3 => ?_
  refine ev_rf mB ?_
  iterate 4 refine dr_act wN mb ma mc mT mR ?_
  refine dr_nil (h3 _ ?_); clear h3
  cases hc2 : (decide ((i : Int) < (xs.length : Int)))
  · have hc2 := of_decide_eq_false hc2
    refine ev_cond false mlq (fun hz => by cases hz) (fun hz => ?_)
    refine ev_exit ?_
    simp only [seqK, loopK, blkK, Nat.reduceEqDiff, ↓reduceIte]
    refine h1 _ ?_; clear h1
    refine ev_seq fun K1 h1 => ?_
    refine ev_rf mB ?_
    iterate 6 refine dr_act wN mb ma mc mT mR ?_
    refine dr_nil (h1 _ ?_); clear h1
    refine ev_ret ?_
    rw [go_end (by assumption) (by omega) hg]
    exact retL [64, 65] (res' := [.cell 4 116, .tmp 5, .tmp 6]) mr (.cell nT mZ ma mc mP (.tmp nT mL (.tmp nT mL .nil))) rfl mr (by decide) ⟨⟨mr, (pure_map fun _ => by first | rfl | simp [pcell])⟩, ⟨mr, (pure_map fun _ => by first | rfl | simp [pcell])⟩, trivial⟩
  have hc2 := of_decide_eq_true hc2
  refine ev_cond true mlq (fun hz => ?_) (fun hz => by cases hz)
  refine ev_skip (h2 _ ?_); clear h2
  refine ev_seq fun K2 h2 => ?_
  refine ev_block ?_
  refine ev_seq fun K3 h3 => ?_
  refine ev_reg mB ?_
  iterate 3 refine dr_act wN mb ma mc mT mR ?_
  refine dr_ix (dlz : Dl) wN mr mb ml ml mS (by omega) mT ?_
  rw [Int.toNat_natCast]
  refine dr_act wN mb ma mc mT mR ?_
  refine dr_call wN mr mb mx (.cons (.agg (.cons (fM mr rfl) (.cons (fWS mr rfl) (.cons (fn rfl) .nil)))) (.cons (fN rfl) .nil)) (c138 s (xs.getD i dlz) hs) (Nat.le_of_ble_eq_true rfl) mv mT mN ?_
  iterate 6 refine dr_act wN mb ma mc mT mR ?_
  refine dr_nil ⟨fun _ => by kernel_rfl, h3 _ ?_⟩; clear h3
  refine ev_seq fun K3 h3 => ?_
  refine ev_seq fun K4 h4 => ?_
  refine ev_rf mB ?_
  iterate 2 refine dr_act wN mb ma mc mT mR ?_
  refine dr_nil (h4 _ ?_); clear h4
  cases hc3 : ((doD s (xs.getD i dlz)).isSome)
  · refine ev_cond true mlq (fun hz => ?_) (fun hz => by cases hz)
    refine ev_seq fun K4 h4 => ?_
    refine ev_rf mB ?_
    iterate 5 refine dr_act wN mb ma mc mT mR ?_
    refine dr_nil (h4 _ ?_); clear h4
    refine ev_ret ?_
    rw [go_stop (by assumption) (by assumption) (by assumption) hg]
    exact retL [64, 65] (res' := [.cell 4 116, .tmp 5, .tmp 6]) mr (.cell nT mZ ma mc mP (.tmp nT mL (.tmp nT mL .nil))) rfl mr (by decide) ⟨⟨mr, (pure_map fun _ => by first | rfl | simp [pcell])⟩, ⟨mr, (pure_map fun _ => by first | rfl | simp [pcell])⟩, trivial⟩
  refine ev_cond false mlq (fun hz => by cases hz) (fun hz => ?_)
  refine ev_skip (h3 _ ?_); clear h3
  refine ev_rf mB ?_
  iterate 2 refine dr_act wN mb ma mc mT mR ?_
  refine dr_nil (h2 _ ?_); clear h2
  refine ev_rf mB ?_
  iterate 2 refine dr_act wN mb ma mc mT mR ?_
  rw [wrap_of (x := (i : Int) + 1) (by omega) (by omega)]
  refine dr_act wN mb ma mc mT mR ?_
  refine dr_nil ?_
  refine ⟨⟨(uD (doD s (xs.getD i dlz)), i + 1), (go_step (by assumption) (by assumption) hg).1, by dsimp only; omega, (go_step (by assumption) (by assumption) hg).2⟩, by dsimp only; omega, ?_⟩
  exact weak_ren [(64, 168), (65, 169)] mK (chkR_cons mK (chkR_cons mK (chkRm rfl (by decide) rfl (fun _ => rfl) (fun a => by first | rfl | simp [okC]) (chkRm rfl (by decide) rfl (fun _ => rfl) (fun a => by first | rfl | simp [okC]) trivial)))) mD mQ

theorem c80 (d : Dk) (xs : List Dl) (hl1 : d.m.length ≤ 1048576) (hl2 : ∀ r, r ∈ d.m → r.length ≤ 1048576) (hw : d.ws.length ≤ 1048576) (hx : xs.length ≤ 1048576) : Good Try.prog 80 [eD d, eDls xs] (.tup [oD 0 (goO d xs).1.1, vi (goO d xs).1.2, vb (goO d xs).2]) [rM (goO d xs).1.1.m, rWS (goO d xs).1.1.ws] := by
  refine good_of (E := En 39) (fn := Try.f80) (by kernel_rfl) (by kernel_rfl) rfl rfl (by simp only [List.length_cons, List.length_nil]; decide) (fun C0 => ?_)
  simp only [argT, Nat.reduceAdd, eB, eM, eWS]
  refine ev_seq fun K1 h1 => ?_
  refine ev_rf mB ?_
  iterate 4 refine dr_act wN mb ma mc mT mR ?_
  refine dr_nil (h1 _ ?_); clear h1
  refine ev_seq fun K1 h1 => ?_
  refine ev_seq fun K2 h2 => ?_
  refine ev_rf mB ?_
  refine dr_act wN mb ma mc mT mR ?_
  refine dr_callF wN mr mb mx mr (c139 d mh mh mh) (Nat.le_of_ble_eq_true rfl) mv mT mN ?_
  refine dr_act wN mb ma mc mT mR ?_
  refine dr_nil (h2 _ ?_); clear h2
  cases hc1 : (okD d)
  · refine ev_cond true mlq (fun hz => ?_) (fun hz => by cases hz)
    refine ev_seq fun K2 h2 => ?_
    refine ev_rf mB ?_
    iterate 4 refine dr_act wN mb ma mc mT mR ?_
    refine dr_nil (h2 _ ?_); clear h2
    refine ev_weak (weak_nil 8 0 0 29 1 mr mr mr mNl (by decide : 88 < 96)) ?_
    refine ev_weak (weak_nil 8 0 1 32 4 mr mr mr mNl (by decide : 96 < 104)) ?_
    refine ev_ret ?_
    rw [go_no (by assumption)]
    exact retL [88, 96] (res' := [.cell 4 116, .tmp 5, .tmp 6]) mr (.cell nT mZ ma mc mP (.tmp nT mL (.tmp nT mL .nil))) rfl mr (by decide) ⟨⟨mr, rfl⟩, ⟨mr, rfl⟩, trivial⟩
  refine ev_cond false mlq (fun hz => by cases hz) (fun hz => ?_)
  refine ev_skip (h1 _ ?_); clear h1
  refine ev_seq fun K1 h1 => ?_
  refine ev_rf mB ?_
  refine dr_act wN mb ma mc mT mR ?_
  refine dr_callF wN mr mb mx mr (c140 d mh mh mh) (Nat.le_of_ble_eq_true rfl) mv mT mN ?_
  refine dr_act wN mb ma mc mT mR ?_
  refine dr_nil (h1 _ ?_); clear h1
  refine ev_seq fun K1 h1 => ?_
  refine ev_seq fun K2 h2 => ?_
  refine ev_rf mB ?_
  iterate 3 refine dr_act wN mb ma mc mT mR ?_
  refine dr_nil (h2 _ ?_); clear h2
  refine ev_block (ev_loop (α := {p : Dk × Nat // okD p.1 = true ∧ p.2 ≤ xs.length ∧ goD p.1 (xs.drop p.2) p.2 = goD d xs 0}) (fun p => ⟨[(1, .list 4 (xs.map cDl)), (2, .ptr (0, none) 0 0), (4, .ptr (8, none) 0 0), (5, vi 0), (6, vb false), (17, .list 4 (xs.map cDl)), (18, vi (xs.length : Int)), (19, vi (p.1.2 : Int))], [(0, ⟨116, 3, [[.ref (64, none) 0 p.1.1.m.length, .ref (65, none) 0 p.1.1.ws.length, vi p.1.1.k]]⟩), (8, ⟨116, 3, [[.val (.slice none 0 0), .val (.slice none 0 0), vi 0]]⟩), (64, ⟨29, 1, p.1.1.m.map cR⟩), (65, ⟨32, 4, p.1.1.ws.map cW⟩)], 104⟩) (fun p => xs.length - p.1.2) ⟨(d, 0), by assumption, Nat.zero_le _, by simp⟩ (weak_ren [] mK (chkR_cons mK (chkR_cons mK (chkRm rfl (by decide) rfl (fun _ => rfl) (fun a => by first | rfl | simp [okC]) (chkRm rfl (by decide) rfl (fun _ => rfl) (fun a => by first | rfl | simp [okC]) trivial)))) mD mQ) (fun ⟨(s, i), hinv⟩ => ?_))
  dsimp only
  obtain ⟨hs, hil, hg⟩ := hinv
  dsimp only at hs hil hg
  have hgs := okD_g hs
  have hs1 := hgs.l4
  have hs2 := hgs.r4
  have hrs := okD_r hs
  have hws : s.ws.length ≤ 1048576 := by have := hrs; omega
  refine ev_seq fun K2 h2 => ?_
  refine ev_rf mB ?_
  refine dr_act wN mb ma mc mT mR ?_
  refine dr_nil (h2 _ ?_); clear h2
  refine ev_seq fun K2 h2 => ?_
  cases hc2 : (decide ((i : Int) < (xs.length : Int)))
  · have hc2 := of_decide_eq_false hc2
    refine ev_cond false mlq (fun hz => by cases hz) (fun hz => ?_)
    refine ev_exit ?_
    simp only [seqK, loopK, blkK, Nat.reduceEqDiff, ↓reduceIte]
    refine h1 _ ?_; clear h1
    refine ev_seq fun K1 h1 => ?_
    refine ev_rf mB ?_
    iterate 6 refine dr_act wN mb ma mc mT mR ?_
    refine dr_nil (h1 _ ?_); clear h1
    refine ev_ret ?_
    rw [go_end (by assumption) (by omega) hg]
    exact retL [64, 65] (res' := [.cell 4 116, .tmp 5, .tmp 6]) mr (.cell nT mZ ma mc mP (.tmp nT mL (.tmp nT mL .nil))) rfl mr (by decide) ⟨⟨mr, (pure_map fun _ => by first | rfl | simp [pcell])⟩, ⟨mr, (pure_map fun _ => by first | rfl | simp [pcell])⟩, trivial⟩
  have hc2 := of_decide_eq_true hc2
  refine ev_cond true mlq (fun hz => ?_) (fun hz => by cases hz)
  refine ev_skip (h2 _ ?_); clear h2
  refine ev_seq fun K2 h2 => ?_
  refine ev_block ?_
  refine ev_seq fun K3 h3 => ?_
  refine ev_rf mB ?_
  refine dr_act wN mb ma mc mT mR ?_
  refine dr_ix (dlz : Dl) wN mr mb ml ml mS (by omega) mT ?_
  rw [Int.toNat_natCast]
  iterate 4 refine dr_act wN mb ma mc mT mR ?_
  refine dr_nil (h3 _ ?_); clear h3
  refine ev_seq fun K3 h3 => ?_
  refine ev_rf mB ?_
  iterate 2 refine dr_act wN mb ma mc mT mR ?_
  refine dr_call wN mr mb mx (.cons (.agg (.cons (fM mr rfl) (.cons (fWS mr rfl) (.cons (fn rfl) .nil)))) (.cons (fN rfl) .nil)) (c73d s (xs.getD i dlz) (by first | exact hs1 | assumption) (by first | exact hs2 | assumption) (by first | exact hws | assumption) hs) (Nat.le_of_ble_eq_true rfl) mv mT mN ?_
  iterate 6 refine dr_act wN mb ma mc mT mR ?_
  refine dr_nil (h3 _ ?_); clear h3
  refine ev_seq fun K3 h3 => ?_
  refine ev_seq fun K4 h4 => ?_
  refine ev_rf mB ?_
  iterate 2 refine dr_act wN mb ma mc mT mR ?_
  refine dr_nil (h4 _ ?_); clear h4
  cases hc3 : ((doD s (xs.getD i dlz)).isSome)
  · refine ev_cond true mlq (fun hz => ?_) (fun hz => by cases hz)
    refine ev_seq fun K4 h4 => ?_
    refine ev_rf mB ?_
    iterate 5 refine dr_act wN mb ma mc mT mR ?_
    refine dr_nil (h4 _ ?_); clear h4
    refine ev_ret ?_
    rw [go_stop (by assumption) (by assumption) (by assumption) hg]
    exact retL [64, 65] (res' := [.cell 4 116, .tmp 5, .tmp 6]) mr (.cell nT mZ ma mc mP (.tmp nT mL (.tmp nT mL .nil))) rfl mr (by decide) ⟨⟨mr, (pure_map fun _ => by first | rfl | simp [pcell])⟩, ⟨mr, (pure_map fun _ => by first | rfl | simp [pcell])⟩, trivial⟩
  refine ev_cond false mlq (fun hz => by cases hz) (fun hz => ?_)
  refine ev_skip (h3 _ ?_); clear h3
  refine ev_rf mB ?_
  iterate 2 refine dr_act wN mb ma mc mT mR ?_
  refine dr_nil (h2 _ ?_); clear h2
  refine ev_rf mB ?_
  refine dr_act wN mb ma mc mT mR ?_
  rw [wrap_of (x := (i : Int) + 1) (by omega) (by omega)]
  refine dr_act wN mb ma mc mT mR ?_
  refine dr_nil ?_
  refine ⟨⟨(uD (doD s (xs.getD i dlz)), i + 1), (go_step (by assumption) (by assumption) hg).1, by dsimp only; omega, (go_step (by assumption) (by assumption) hg).2⟩, by dsimp only; omega, ?_⟩
  exact weak_ren [(64, 176), (65, 177)] mK (chkR_cons mK (chkR_cons mK (chkRm rfl (by decide) rfl (fun _ => rfl) (fun a => by first | rfl | simp [okC]) (chkRm rfl (by decide) rfl (fun _ => rfl) (fun a => by first | rfl | simp [okC]) trivial)))) mD mQ
end Go.Ev
namespace Go.Ev
open Go Go.RowKit Go.Proofs

theorem szD_bound {d : Dk} (h : ¬ szD d 1048576 < 0) (hl : Len d.m) (hw : d.ws.length ≤ maxLen) : d.m.length ≤ 1048576 ∧ (∀ r, r ∈ d.m → r.length ≤ 1048576) ∧ tot d.m ≤ 1048576 ∧ d.ws.length ≤ 1048576 := by
  unfold szD at h
  split at h
  · exact absurd (by decide : (-1 : Int) < 0) h
  rename_i h1
  obtain ⟨hm1, hm2, hm3⟩ := szM_bound (m := d.m) (by omega)
  split at h
  · exact absurd (by decide : (-1 : Int) < 0) h
  rename_i h2
  have h3 := szM_le d.m 1048576 (by decide)
  have := szWS_le (ws := d.ws) (k := szM d.m 1048576) (by omega) (by omega)
  exact ⟨hm1, hm2, hm3, by omega⟩
theorem c70y (d : Dk) (x : Dl) (y : Dk) (ok : Bool) (hl1 : d.m.length ≤ 1048576) (hl2 : ∀ r, r ∈ d.m → r.length ≤ 1048576) (hw : d.ws.length ≤ 1048576) (hq : uD (dealO d x) = y) (ho : (dealO d x).isSome = ok) : Good Try.prog 70 [eD d, eDl x] (.tup [oD 0 y, vb ok]) [rM y.m, rWS y.ws] := by
  subst hq; subst ho; exact c70 d x hl1 hl2 hw
theorem c73y (d : Dk) (x : Dl) (y : Dk) (ok : Bool) (hl1 : d.m.length ≤ 1048576) (hl2 : ∀ r, r ∈ d.m → r.length ≤ 1048576) (hw : d.ws.length ≤ 1048576) (hq : uD (dealO d x) = y) (ho : (dealO d x).isSome = ok) : Good Try.prog 73 [eD d, eDl x] (.tup [oD 0 y, vb ok]) [rM y.m, rWS y.ws] := by
  subst hq; subst ho; exact c73 d x hl1 hl2 hw
theorem c74s (a : Dk) (hl : Len a.m) (hw : a.ws.length ≤ maxLen) : Good Try.prog 74 [eD a, eD a] (vb true) [] := by
  have h := c74 a a hl hw
  rw [show qD a a = true from by simp [qD]] at h
  exact h
theorem hdD_mk {a : Dk} : hdD ⟨mkM 1 a.m, mkW (1 + tot a.m) a.ws.length, a.k⟩ 1 = 1 + tot a.m + 4 * (a.ws.length : Nat) := by
  have e1 : hdM (mkM 1 a.m) 1 = 1 + tot a.m := by rw [hdM, mkM_mkM, if_pos rfl, mkM_tot]
  have e2 : hdW (mkW (1 + tot a.m) a.ws.length) (1 + tot a.m) = 1 + tot a.m + 4 * (a.ws.length : Nat) := by rw [hdW, mkW_len, if_pos rfl]
  simp only [hdD, e1, e2]
  rw [if_neg (by omega), if_neg (by omega)]

set_option maxHeartbeats 4000000 in
theorem c11y (d : Dk) (x : Dl) (y : Dk) (ok : Bool) (hl : Len d.m) (hw1 : d.ws.length ≤ maxLen) (hq : uD (dealO d x) = y) (ho : (dealO d x).isSome = ok) : Good Try.prog 11 [eD d, eDl x] (vb true) [] := by
  refine good_of (E := En 104) (fn := Try.f11) (by kernel_rfl) (by kernel_rfl) rfl rfl (by simp only [List.length_cons, List.length_nil]; decide) (fun C0 => ?_)
  simp only [argT, Nat.reduceAdd, eB, eM, eWS]
  have hyg : GM y.m := by rw [← hq]; exact (dealO_g d x).1
  have hyw : y.ws.length ≤ 8 := by rw [← hq]; exact (dealO_g d x).2
  have hyt := hyg.tot
  have hyl := hyg.l
  have hya := hyg.l4
  have hyb := hyg.r4
  have hyL : Len y.m := ⟨by simp only [maxLen]; omega, fun r hr => by have := hyg.r r hr; simp only [maxLen]; omega⟩
  have hyW : y.ws.length ≤ maxLen := by simp only [maxLen]; omega
  have hyc : y.ws.length ≤ 1048576 := by omega
  refine ev_seq fun K1 h1 => ?_
  refine ev_rf mB ?_
  iterate 3 refine dr_act wN mb ma mc mT mR ?_
  refine dr_nil (h1 _ ?_); clear h1
  refine ev_seq fun K1 h1 => ?_
  refine ev_rf mB ?_
  refine dr_act wN mb ma mc mT mR ?_
  refine dr_nil (h1 _ ?_); clear h1
  refine ev_seq fun K1 h1 => ?_
  refine ev_rf mB ?_
  iterate 2 refine dr_act wN mb ma mc mT mR ?_
  refine dr_callF wN mr mb mx mr (c69 d 1048576 hl hw1 (by decide)) (Nat.le_of_ble_eq_true rfl) mv mT mN ?_
  refine dr_act wN mb ma mc mT mR ?_
  refine dr_nil (h1 _ ?_); clear h1
  refine ev_seq fun K1 h1 => ?_
  refine ev_seq fun K2 h2 => ?_
  refine ev_rf mB ?_
  iterate 2 refine dr_act wN mb ma mc mT mR ?_
  refine dr_nil (h2 _ ?_); clear h2
  cases hc1 : (decide ((szD d 1048576) < 0))
  rotate_left
  · have hc1 := of_decide_eq_true hc1
    refine ev_cond true mlq (fun hz => ?_) (fun hz => by cases hz)
    refine ev_seq fun K2 h2 => ?_
    refine ev_rf mB ?_
    refine dr_act wN mb ma mc mT mR ?_
    refine dr_nil (h2 _ ?_); clear h2
    refine ev_ret ?_
    exact retT [4] (hv := rfl)
  have hc1 := of_decide_eq_false hc1
  obtain ⟨hm1, hm2, hm3, hm4⟩ := szD_bound hc1 hl hw1
  refine ev_cond false mlq (fun hz => by cases hz) (fun hz => ?_)
  refine ev_skip (h1 _ ?_); clear h1
  refine ev_seq fun K1 h1 => ?_
  refine ev_reg mB ?_
  refine dr_act wN mb ma mc mT mR ?_
  refine dr_callF wN mr mb mx mr (c71 d mh mh mh) (Nat.le_of_ble_eq_true rfl) mv mT mN ?_
  refine dr_act wN mb ma mc mT mR ?_
  refine dr_callF wN mr mb mx mr (c72 x) (Nat.le_of_ble_eq_true rfl) mv mT mN ?_
  refine dr_call wN mr mb mx (.cons (.agg (.cons (fM mr rfl) (.cons (fWS mr rfl) (.cons (fn rfl) .nil)))) (.cons (fN rfl) .nil)) (c70y d x y ok mh mh mh mh mh) (Nat.le_of_ble_eq_true rfl) mv mT mN ?_
  iterate 6 refine dr_act wN mb ma mc mT mR ?_
  refine dr_nil ⟨fun _ => by kernel_rfl, h1 _ ?_⟩; clear h1
  refine ev_seq fun K1 h1 => ?_
  refine ev_rf mB ?_
  refine dr_act wN mb ma mc mT mR ?_
  refine dr_callF wN mr mb mx mr (c71 d mh mh mh) (Nat.le_of_ble_eq_true rfl) mv mT mN ?_
  iterate 2 refine dr_act wN mb ma mc mT mR ?_
  refine dr_nil (h1 _ ?_); clear h1
  refine ev_seq fun K1 h1 => ?_
  refine ev_reg mB ?_
  iterate 2 refine dr_act wN mb ma mc mT mR ?_
  refine dr_callF wN mr mb mx mr (c72 x) (Nat.le_of_ble_eq_true rfl) mv mT mN ?_
  refine dr_call wN mr mb mx (.cons (.agg (.cons (fM mr rfl) (.cons (fWS mr rfl) (.cons (fn rfl) .nil)))) (.cons (fN rfl) .nil)) (c73y d x y ok mh mh mh mh mh) (Nat.le_of_ble_eq_true rfl) mv mT mN ?_
  iterate 6 refine dr_act wN mb ma mc mT mR ?_
  refine dr_nil ⟨fun _ => by kernel_rfl, h1 _ ?_⟩; clear h1
  refine ev_seq fun K1 h1 => ?_
  refine ev_seq fun K2 h2 => ?_
  refine ev_rf mB ?_
  iterate 2 refine dr_act wN mb ma mc mT mR ?_
  refine dr_call wN mr mb mx (.cons (.agg (.cons (fM mr rfl) (.cons (fWS mr rfl) (.cons (fn rfl) .nil)))) (.cons (.agg (.cons (fM mr rfl) (.cons (fWS mr rfl) (.cons (fn rfl) .nil)))) .nil)) (c74s y (by assumption) (by assumption)) (Nat.le_of_ble_eq_true rfl) mv mT mN ?_
  iterate 2 refine dr_act wN mb ma mc mT mR ?_
  iterate 3 refine dr_act wG mb ma mc mT mR ?_
  refine dr_act wN mb ma mc mT mR ?_
  refine dr_nil (h2 _ ?_); clear h2
  rw [show (ok == ok) = true from by cases ok <;> rfl]
  refine ev_cond false mlq (fun hz => by cases hz) (fun hz => ?_)
  refine ev_skip (h1 _ ?_); clear h1
  refine ev_seq fun K1 h1 => ?_
  refine ev_seq fun K2 h2 => ?_
  refine ev_weak (σ' := ⟨[(2, .ptr (0, none) 0 0), (3, .ptr (8, none) 0 0), (4, vb false), (6, .ptr (144, none) 0 0), (7, vb ok), (8, .ptr (184, none) 0 0), (9, .ptr (256, none) 0 0), (10, vb ok)], [(0, ⟨111, 3, [[.list 1 (d.m.map cM), .list 4 (d.ws.map cW), vi d.k]]⟩), (8, ⟨113, 4, [[vi x.t, vi x.a, vi x.b, vi x.c]]⟩), (144, ⟨116, 3, [[.ref (112, none) 0 y.m.length, .ref (113, none) 0 y.ws.length, vi y.k]]⟩), (184, ⟨116, 3, [[.ref (176, none) 0 d.m.length, .ref (177, none) 0 d.ws.length, vi d.k]]⟩), (256, ⟨116, 3, [[.ref (224, none) 0 y.m.length, .ref (225, none) 0 y.ws.length, vi y.k]]⟩), (112, ⟨29, 1, y.m.map cR⟩), (113, ⟨32, 4, y.ws.map cW⟩), (176, ⟨29, 1, d.m.map cR⟩), (177, ⟨32, 4, d.ws.map cW⟩), (224, ⟨29, 1, y.m.map cR⟩), (225, ⟨32, 4, y.ws.map cW⟩)], 352⟩) (weak_ren [] mK (chkR_cons mK (chkR_cons mK (chkR_cons mK (chkR_cons mK (chkR_cons mK (chkRm rfl (by decide) rfl (fun _ => rfl) (fun a => by first | rfl | simp [okC]) (chkRm rfl (by decide) rfl (fun _ => rfl) (fun a => by first | rfl | simp [okC]) (chkRm rfl (by decide) rfl (fun _ => rfl) (fun a => by first | rfl | simp [okC]) (chkRm rfl (by decide) rfl (fun _ => rfl) (fun a => by first | rfl | simp [okC]) (chkRm rfl (by decide) rfl (fun _ => rfl) (fun a => by first | rfl | simp [okC]) (chkRm rfl (by decide) rfl (fun _ => rfl) (fun a => by first | rfl | simp [okC]) trivial))))))))))) mD mQ) ?_
  refine ev_reg mB ?_
  iterate 2 refine dr_act wN mb ma mc mT mR ?_
  refine dr_callF wN mr mb mx mr (c71 d mh mh mh) (Nat.le_of_ble_eq_true rfl) mv mT mN ?_
  refine dr_call wN mr mb mx (.cons (.agg (.cons (fM mr rfl) (.cons (fWS mr rfl) (.cons (fn rfl) .nil)))) (.cons (.agg (.cons (fM mr rfl) (.cons (fWS mr rfl) (.cons (fn rfl) .nil)))) .nil)) (c74s d (by assumption) (by assumption)) (Nat.le_of_ble_eq_true rfl) mv mT mN ?_
  refine dr_act wN mb ma mc mT mR ?_
  refine dr_nil ⟨fun _ => by kernel_rfl, h2 _ ?_⟩; clear h2
  refine ev_cond false mlq (fun hz => by cases hz) (fun hz => ?_)
  refine ev_skip (h1 _ ?_); clear h1
  refine ev_seq fun K1 h1 => ?_
  refine ev_rf mB ?_
  refine dr_act wN mb ma mc mT mR ?_
  refine dr_nil (h1 _ ?_); clear h1
  refine ev_seq fun K1 h1 => ?_
  refine ev_rf mB ?_
  iterate 2 refine dr_act wN mb ma mc mT mR ?_
  refine dr_callR [176, 177] [] wN mr mbq mx (c75 d 1 mh mh mh mh) (.ren rfl rfl (.ren rfl rfl .nil)) ⟨⟨_, mr, rfl, rfl, rnMap (fun _ => rfl) _, okMM⟩, ⟨_, mr, rfl, rfl, rnMap (fun _ => rfl) _, okMap (fun _ => rfl) _⟩, trivial⟩ ⟨⟨by decide, nz⟩, Nat.le_of_ble_eq_true rfl⟩ (v := vi (1 + tot d.m + 4 * (d.ws.length : Nat))) rfl mT mRR2 ?_
  refine dr_act wN mb ma mc mT mR ?_
  refine dr_nil (h1 _ ?_); clear h1
  refine ev_seq fun K1 h1 => ?_
  refine ev_seq fun K2 h2 => ?_
  refine ev_rf mB ?_
  iterate 3 refine dr_act wN mb ma mc mT mR ?_
  rw [show (decide ((1 + tot d.m + 4 * (d.ws.length : Nat) : Int) < 0)) = false from decide_eq_false (by omega)]
  iterate 2 refine dr_act wG mb ma mc mT mR ?_
  refine dr_call wG mr mb mx (.cons (.agg (.cons (fM mr rfl) (.cons (fWS mr rfl) (.cons (fn rfl) .nil)))) (.cons (.agg (.cons (fM mr rfl) (.cons (fWS mr rfl) (.cons (fn rfl) .nil)))) .nil)) (c74s y (by assumption) (by assumption)) (Nat.le_of_ble_eq_true rfl) mv mT mN ?_
  refine dr_act wG mb ma mc mT mR ?_
  iterate 2 refine dr_act wN mb ma mc mT mR ?_
  iterate 3 refine dr_act wG mb ma mc mT mR ?_
  refine dr_act wN mb ma mc mT mR ?_
  refine dr_nil (h2 _ ?_); clear h2
  rw [show (ok == ok) = true from by cases ok <;> rfl]
  refine ev_cond false mlq (fun hz => by cases hz) (fun hz => ?_)
  refine ev_skip (h1 _ ?_); clear h1
  refine ev_seq fun K1 h1 => ?_
  refine ev_rf mB ?_
  refine dr_act wN mb ma mc mT mR ?_
  refine dr_nil (h1 _ ?_); clear h1
  refine ev_seq fun K1 h1 => ?_
  refine ev_rf mB ?_
  iterate 2 refine dr_act wN mb ma mc mT mR ?_
  refine dr_callR [224, 225] [] wN mr mbq mx (c75 y 1 mh mh mh mh) (.ren rfl rfl (.ren rfl rfl .nil)) ⟨⟨_, mr, rfl, rfl, rnMap (fun _ => rfl) _, okMM⟩, ⟨_, mr, rfl, rfl, rnMap (fun _ => rfl) _, okMap (fun _ => rfl) _⟩, trivial⟩ ⟨⟨by decide, nz⟩, Nat.le_of_ble_eq_true rfl⟩ (v := vi (1 + tot y.m + 4 * (y.ws.length : Nat))) rfl mT mRR2 ?_
  refine dr_act wN mb ma mc mT mR ?_
  refine dr_nil (h1 _ ?_); clear h1
  refine ev_seq fun K1 h1 => ?_
  refine ev_rf mB ?_
  refine dr_act wN mb ma mc mT mR ?_
  refine dr_nil (h1 _ ?_); clear h1
  refine ev_seq fun K1 h1 => ?_
  refine ev_rf mB ?_
  iterate 2 refine dr_act wN mb ma mc mT mR ?_
  refine dr_call wN mr mb mx (.cons (.agg (.cons (fM mr (by simp only [mkM_length, mkW_len])) (.cons (fWS mr (by simp only [mkM_length, mkW_len])) (.cons (fn rfl) .nil)))) (.cons (fN rfl) .nil)) (c76 ⟨mkM 1 y.m, mkW (1 + tot y.m) y.ws.length, y.k⟩ 1 (by decide) (by first | (rw [mkM_tot]; omega) | (dsimp only; rw [mkM_tot]; omega)) (by first | (rw [mkM_length]; omega) | (dsimp only; rw [mkM_length]; omega)) (by first | (rw [mkW_len]; omega) | (dsimp only; rw [mkW_len]; omega))) (Nat.le_of_ble_eq_true rfl) mv mT mN ?_
  rw [hdD_mk]
  refine dr_act wN mb ma mc mT mR ?_
  refine dr_nil (h1 _ ?_); clear h1
  refine ev_seq fun K1 h1 => ?_
  refine ev_seq fun K2 h2 => ?_
  refine ev_rf mB ?_
  iterate 2 refine dr_act wN mb ma mc mT mR ?_
  refine dr_nil (h2 _ ?_); clear h2
  rw [show (decide ((1 + tot y.m + 4 * (y.ws.length : Nat) : Int) < 0)) = false from decide_eq_false (by omega)]
  refine ev_cond false mlq (fun hz => by cases hz) (fun hz => ?_)
  refine ev_skip (h1 _ ?_); clear h1
  refine ev_seq fun K1 h1 => ?_
  refine ev_seq fun K2 h2 => ?_
  refine ev_rf mB ?_
  iterate 3 refine dr_act wN mb ma mc mT mR ?_
  refine dr_nil (h2 _ ?_); clear h2
  rw [show ((1 + tot y.m + 4 * (y.ws.length : Nat) : Int) != (1 + tot y.m + 4 * (y.ws.length : Nat) : Int)) = false from bne_self_eq_false _]
  refine ev_cond false mlq (fun hz => by cases hz) (fun hz => ?_)
  refine ev_skip (h1 _ ?_); clear h1
  refine ev_seq fun K1 h1 => ?_
  refine ev_weak (σ' := ⟨[(2, .ptr (0, none) 0 0), (3, .ptr (8, none) 0 0), (4, vb false), (6, .ptr (144, none) 0 0), (7, vb ok), (9, .ptr (256, none) 0 0), (12, vi (1 + tot y.m + 4 * (y.ws.length : Nat) : Int)), (13, vi (1 + tot y.m + 4 * (y.ws.length : Nat) : Int))], [(0, ⟨111, 3, [[.list 1 (d.m.map cM), .list 4 (d.ws.map cW), vi d.k]]⟩), (8, ⟨113, 4, [[vi x.t, vi x.a, vi x.b, vi x.c]]⟩), (144, ⟨116, 3, [[.ref (112, none) 0 y.m.length, .ref (113, none) 0 y.ws.length, vi y.k]]⟩), (256, ⟨116, 3, [[.ref (224, none) 0 y.m.length, .ref (225, none) 0 y.ws.length, vi y.k]]⟩), (112, ⟨29, 1, y.m.map cR⟩), (113, ⟨32, 4, y.ws.map cW⟩), (224, ⟨29, 1, (mkM 1 y.m).map cR⟩), (225, ⟨32, 4, (mkW (1 + tot y.m) y.ws.length).map cW⟩)], 656⟩) (weak_ren [] mK (chkR_cons mK (chkR_cons mK (chkR_cons mK (chkR_cons mK (chkRm rfl (by decide) rfl (fun _ => rfl) (fun a => by first | rfl | simp [okC]) (chkRm rfl (by decide) rfl (fun _ => rfl) (fun a => by first | rfl | simp [okC]) (chkRm rfl (by decide) rfl (fun _ => rfl) (fun a => by first | rfl | simp [okC]) (chkRm rfl (by decide) rfl (fun _ => rfl) (fun a => by first | rfl | simp [okC]) trivial)))))))) mD mQ) ?_
  refine ev_reg mB ?_
  refine dr_act wN mb ma mc mT mR ?_
  refine dr_callF wN mr mb mx mr (c71 d mh mh mh) (Nat.le_of_ble_eq_true rfl) mv mT mN ?_
  refine dr_act wN mb ma mc mT mR ?_
  refine dr_callF wN mr mb mx mr (c72 x) (Nat.le_of_ble_eq_true rfl) mv mT mN ?_
  refine dr_call wN mr mb mx (.cons (.agg (.cons (fM mr rfl) (.cons (fWS mr rfl) (.cons (fn rfl) .nil)))) (.cons (fN rfl) .nil)) (c73y d x y ok mh mh mh mh mh) (Nat.le_of_ble_eq_true rfl) mv mT mN ?_
  iterate 6 refine dr_act wN mb ma mc mT mR ?_
  refine dr_nil ⟨fun _ => by kernel_rfl, h1 _ ?_⟩; clear h1
  refine ev_seq fun K1 h1 => ?_
  refine ev_seq fun K2 h2 => ?_
  refine ev_rf mB ?_
  iterate 2 refine dr_act wN mb ma mc mT mR ?_
  refine dr_call wN mr mb mx (.cons (.agg (.cons (fM mr rfl) (.cons (fWS mr rfl) (.cons (fn rfl) .nil)))) (.cons (.agg (.cons (fM mr rfl) (.cons (fWS mr rfl) (.cons (fn rfl) .nil)))) .nil)) (c74s y (by assumption) (by assumption)) (Nat.le_of_ble_eq_true rfl) mv mT mN ?_
  iterate 2 refine dr_act wN mb ma mc mT mR ?_
  iterate 3 refine dr_act wG mb ma mc mT mR ?_
  refine dr_act wN mb ma mc mT mR ?_
  refine dr_nil (h2 _ ?_); clear h2
  rw [show (ok == ok) = true from by cases ok <;> rfl]
  refine ev_cond false mlq (fun hz => by cases hz) (fun hz => ?_)
  refine ev_skip (h1 _ ?_); clear h1
  refine ev_seq fun K1 h1 => ?_
  refine ev_rf mB ?_
  refine dr_act wN mb ma mc mT mR ?_
  refine dr_nil (h1 _ ?_); clear h1
  refine ev_seq fun K1 h1 => ?_
  refine ev_rf mB ?_
  iterate 2 refine dr_act wN mb ma mc mT mR ?_
  refine dr_call wN mr mb mx (.cons (.agg (.cons (fM mr (by simp only [mkM_length, mkW_len])) (.cons (fWS mr (by simp only [mkM_length, mkW_len])) (.cons (fn rfl) .nil)))) (.cons (fN rfl) .nil)) (c76 ⟨mkM 1 y.m, mkW (1 + tot y.m) y.ws.length, y.k⟩ 1 (by decide) (by first | (rw [mkM_tot]; omega) | (dsimp only; rw [mkM_tot]; omega)) (by first | (rw [mkM_length]; omega) | (dsimp only; rw [mkM_length]; omega)) (by first | (rw [mkW_len]; omega) | (dsimp only; rw [mkW_len]; omega))) (Nat.le_of_ble_eq_true rfl) mv mT mN ?_
  rw [hdD_mk]
  refine dr_act wN mb ma mc mT mR ?_
  refine dr_nil (h1 _ ?_); clear h1
  refine ev_seq fun K1 h1 => ?_
  refine ev_seq fun K2 h2 => ?_
  refine ev_rf mB ?_
  iterate 2 refine dr_act wN mb ma mc mT mR ?_
  refine dr_nil (h2 _ ?_); clear h2
  rw [show (decide ((1 + tot y.m + 4 * (y.ws.length : Nat) : Int) < 0)) = false from decide_eq_false (by omega)]
  refine ev_cond false mlq (fun hz => by cases hz) (fun hz => ?_)
  refine ev_skip (h1 _ ?_); clear h1
  refine ev_seq fun K1 h1 => ?_
  refine ev_seq fun K2 h2 => ?_
  refine ev_rf mB ?_
  iterate 3 refine dr_act wN mb ma mc mT mR ?_
  refine dr_nil (h2 _ ?_); clear h2
  rw [show ((1 + tot y.m + 4 * (y.ws.length : Nat) : Int) != (1 + tot y.m + 4 * (y.ws.length : Nat) : Int)) = false from bne_self_eq_false _]
  refine ev_cond false mlq (fun hz => by cases hz) (fun hz => ?_)
  refine ev_skip (h1 _ ?_); clear h1
  refine ev_seq fun K1 h1 => ?_
  refine ev_rf mB ?_
  refine dr_act wN mb ma mc mT mR ?_
  refine dr_nil (h1 _ ?_); clear h1
  refine ev_ret ?_
  exact retT [4] (hv := rfl)

theorem c11 (d : Dk) (x : Dl) (hl : Len d.m) (hw1 : d.ws.length ≤ maxLen) : Good Try.prog 11 [eD d, eDl x] (vb true) [] := c11y d x _ _ hl hw1 rfl rfl
end Go.Ev
namespace Go.Ev
open Go Go.RowKit Go.Proofs

theorem fDl {R : Rs} {n : Nat} {ws : List Dl} {k : Nat} (h : R n = some (rDl ws)) (hk : k = ws.length) : FrzC R (.ref (n, none) 0 k) (eDls ws) := by
  refine .ref (xs := ws.map cDl) (zs := ws.map cDl) (by rw [act_of h]) (cut_all (by rw [hk]; exact List.length_map ..)) (norow_noN0 ?_)
  refine List.all_eq_true.2 fun x hx => ?_
  obtain ⟨a, _, rfl⟩ := List.mem_map.1 hx
  rfl
theorem doD_okD {d y : Dk} {x : Dl} (h : doD d x = some y) : okD y = true := by
  unfold doD at h
  split at h
  · rename_i hk; cases h; exact hk.2
  · cases h
theorem goD_ok : ∀ {xs : List Dl} {d : Dk} {i : Nat}, okD d = true → okD (goD d xs i).1 = true
  | [], _, _, h => h
  | x :: l, d, i, h => by
    rw [goD]
    cases e : doD d x with
    | none => exact h
    | some y => exact goD_ok (doD_okD e)
theorem goO_g (d : Dk) (xs : List Dl) : GM (goO d xs).1.1.m ∧ (goO d xs).1.1.ws.length ≤ 8 := by
  unfold goO
  split
  · rename_i h
    have := goD_ok (xs := xs) (i := 0) h
    exact ⟨okD_g this, by have := (okD_r this).2.1; dsimp only; omega⟩
  · exact ⟨GM.nil, Nat.zero_le _⟩
theorem szD_rng {d : Dk} (h : ¬ szD d 1048576 < 0) : 0 ≤ szD d 1048576 ∧ szD d 1048576 ≤ 1048576 := by
  refine ⟨by omega, ?_⟩
  unfold szD at *
  split
  · decide
  rename_i h1
  have h3 := szM_le d.m 1048576 (by decide)
  split
  · decide
  · rename_i h2
    have : szWS d.ws (szM d.m 1048576) ≤ szM d.m 1048576 := by
      unfold szWS at *
      split at h2
      · omega
      · rename_i h4; rw [if_neg h4]; omega
    omega
theorem szX_bound {n : Nat} {k : Int} (h : ¬ szX n k < 0) (hk : k ≤ 1048576) : n ≤ 1048576 := by
  unfold szX at h
  split at h
  · exact absurd (by decide : (-1 : Int) < 0) h
  · omega
theorem c78y (d : Dk) (xs : List Dl) (y : Dk) (n : Int) (ok : Bool) (hl1 : d.m.length ≤ 1048576) (hl2 : ∀ r, r ∈ d.m → r.length ≤ 1048576) (hw : d.ws.length ≤ 1048576) (hx : xs.length ≤ 1048576) (hq : (goO d xs).1.1 = y) (hn : (goO d xs).1.2 = n) (ho : (goO d xs).2 = ok) : Good Try.prog 78 [eD d, eDls xs] (.tup [oD 0 y, vi n, vb ok]) [rM y.m, rWS y.ws] := by
  subst hq; subst hn; subst ho; exact c78 d xs hl1 hl2 hw hx
theorem c80y (d : Dk) (xs : List Dl) (y : Dk) (n : Int) (ok : Bool) (hl1 : d.m.length ≤ 1048576) (hl2 : ∀ r, r ∈ d.m → r.length ≤ 1048576) (hw : d.ws.length ≤ 1048576) (hx : xs.length ≤ 1048576) (hq : (goO d xs).1.1 = y) (hn : (goO d xs).1.2 = n) (ho : (goO d xs).2 = ok) : Good Try.prog 80 [eD d, eDls xs] (.tup [oD 0 y, vi n, vb ok]) [rM y.m, rWS y.ws] := by
  subst hq; subst hn; subst ho; exact c80 d xs hl1 hl2 hw hx

set_option maxHeartbeats 4000000 in
theorem c12y (d : Dk) (xs : List Dl) (y : Dk) (n : Int) (ok : Bool) (hl : Len d.m) (hw1 : d.ws.length ≤ maxLen) (hxm : xs.length ≤ maxLen) (hq : (goO d xs).1.1 = y) (hn : (goO d xs).1.2 = n) (ho : (goO d xs).2 = ok) : Good Try.prog 12 [eD d, eDls xs] (vb true) [] := by
  refine good_of (E := En 140) (fn := Try.f12) (by kernel_rfl) (by kernel_rfl) rfl rfl (by simp only [List.length_cons, List.length_nil]; decide) (fun C0 => ?_)
  simp only [argT, Nat.reduceAdd, eB, eM, eWS]
  have hyg : GM y.m := by rw [← hq]; exact (goO_g d xs).1
  have hyw : y.ws.length ≤ 8 := by rw [← hq]; exact (goO_g d xs).2
  have hyt := hyg.tot
  have hyl := hyg.l
  have hya := hyg.l4
  have hyb := hyg.r4
  have hyL : Len y.m := ⟨by simp only [maxLen]; omega, fun r hr => by have := hyg.r r hr; simp only [maxLen]; omega⟩
  have hyW : y.ws.length ≤ maxLen := by simp only [maxLen]; omega
  have hyc : y.ws.length ≤ 1048576 := by omega
  refine ev_seq fun K1 h1 => ?_
  refine ev_rf mB ?_
  iterate 2 refine dr_act wN mb ma mc mT mR ?_
  refine dr_nil (h1 _ ?_); clear h1
  refine ev_seq fun K1 h1 => ?_
  refine ev_rf mB ?_
  refine dr_act wN mb ma mc mT mR ?_
  refine dr_nil (h1 _ ?_); clear h1
  refine ev_seq fun K1 h1 => ?_
  refine ev_rf mB ?_
  iterate 2 refine dr_act wN mb ma mc mT mR ?_
  refine dr_callF wN mr mb mx mr (c69 d 1048576 hl hw1 (by decide)) (Nat.le_of_ble_eq_true rfl) mv mT mN ?_
  refine dr_act wN mb ma mc mT mR ?_
  refine dr_nil (h1 _ ?_); clear h1
  refine ev_seq fun K1 h1 => ?_
  refine ev_seq fun K2 h2 => ?_
  refine ev_rf mB ?_
  iterate 2 refine dr_act wN mb ma mc mT mR ?_
  refine dr_nil (h2 _ ?_); clear h2
  cases hc1 : (decide ((szD d 1048576) < 0))
  rotate_left
  · have hc1 := of_decide_eq_true hc1
    refine ev_cond true mlq (fun hz => ?_) (fun hz => by cases hz)
    refine ev_seq fun K2 h2 => ?_
    refine ev_rf mB ?_
    refine dr_act wN mb ma mc mT mR ?_
    refine dr_nil (h2 _ ?_); clear h2
    refine ev_ret ?_
    exact retT [4] (hv := rfl)
  have hc1 := of_decide_eq_false hc1
  obtain ⟨hm1, hm2, hm3, hm4⟩ := szD_bound hc1 hl hw1
  have hsz := szD_rng hc1
  refine ev_cond false mlq (fun hz => by cases hz) (fun hz => ?_)
  refine ev_skip (h1 _ ?_); clear h1
  refine ev_seq fun K1 h1 => ?_
  refine ev_rf mB ?_
  iterate 2 refine dr_act wN mb ma mc mT mR ?_
  refine dr_callF wN mr mb mx mr (c77 xs (szD d 1048576) hxm hsz) (Nat.le_of_ble_eq_true rfl) mv mT mN ?_
  refine dr_act wN mb ma mc mT mR ?_
  refine dr_nil (h1 _ ?_); clear h1
  refine ev_seq fun K1 h1 => ?_
  refine ev_seq fun K2 h2 => ?_
  refine ev_rf mB ?_
  iterate 2 refine dr_act wN mb ma mc mT mR ?_
  refine dr_nil (h2 _ ?_); clear h2
  cases hc2 : (decide ((szX xs.length (szD d 1048576)) < 0))
  rotate_left
  · have hc2 := of_decide_eq_true hc2
    refine ev_cond true mlq (fun hz => ?_) (fun hz => by cases hz)
    refine ev_seq fun K2 h2 => ?_
    refine ev_rf mB ?_
    refine dr_act wN mb ma mc mT mR ?_
    refine dr_nil (h2 _ ?_); clear h2
    refine ev_ret ?_
    exact retT [4] (hv := rfl)
  have hc2 := of_decide_eq_false hc2
  have hx := szX_bound hc2 hsz.2
  refine ev_cond false mlq (fun hz => by cases hz) (fun hz => ?_)
  refine ev_skip (h1 _ ?_); clear h1
  refine ev_seq fun K1 h1 => ?_
  refine ev_rf mB ?_
  refine dr_act wN mb ma mc mT mR ?_
  refine dr_callF wN mr mb mx mr (c71 d mh mh mh) (Nat.le_of_ble_eq_true rfl) mv mT mN ?_
  refine dr_act wN mb ma mc mT mR ?_
  refine dr_callF wN mr mb mx mr (c79 xs mh) (Nat.le_of_ble_eq_true rfl) mv mT mN ?_
  refine dr_call wN mr mb mx (.cons (.agg (.cons (fM mr rfl) (.cons (fWS mr rfl) (.cons (fn rfl) .nil)))) (.cons (.cell (fDl mr rfl)) .nil)) (c78y d xs y n ok mh mh mh mh mh mh mh) (Nat.le_of_ble_eq_true rfl) mv mT mN ?_
  iterate 8 refine dr_act wN mb ma mc mT mR ?_
  refine dr_nil (h1 _ ?_); clear h1
  refine ev_seq fun K1 h1 => ?_
  refine ev_rf mB ?_
  refine dr_act wN mb ma mc mT mR ?_
  refine dr_callF wN mr mb mx mr (c71 d mh mh mh) (Nat.le_of_ble_eq_true rfl) mv mT mN ?_
  iterate 2 refine dr_act wN mb ma mc mT mR ?_
  refine dr_nil (h1 _ ?_); clear h1
  refine ev_seq fun K1 h1 => ?_
  refine ev_rf mB ?_
  refine dr_act wN mb ma mc mT mR ?_
  refine dr_callF wN mr mb mx mr (c79 xs mh) (Nat.le_of_ble_eq_true rfl) mv mT mN ?_
  refine dr_act wN mb ma mc mT mR ?_
  refine dr_nil (h1 _ ?_); clear h1
  refine ev_seq fun K1 h1 => ?_
  refine ev_rf mB ?_
  iterate 2 refine dr_act wN mb ma mc mT mR ?_
  refine dr_call wN mr mb mx (.cons (.agg (.cons (fM mr rfl) (.cons (fWS mr rfl) (.cons (fn rfl) .nil)))) (.cons (.cell (fDl mr rfl)) .nil)) (c80y d xs y n ok mh mh mh mh mh mh mh) (Nat.le_of_ble_eq_true rfl) mv mT mN ?_
  iterate 8 refine dr_act wN mb ma mc mT mR ?_
  refine dr_nil (h1 _ ?_); clear h1
  refine ev_seq fun K1 h1 => ?_
  refine ev_seq fun K2 h2 => ?_
  refine ev_weak (σ' := ⟨[(1, .list 4 (xs.map cDl)), (2, .ptr (0, none) 0 0), (4, vb false), (6, .ptr (192, none) 0 0), (7, vi n), (8, vb ok), (9, .ptr (240, none) 0 0), (10, .ref (264, none) 0 xs.length), (11, .ptr (336, none) 0 0), (12, vi n), (13, vb ok)], [(0, ⟨111, 3, [[.list 1 (d.m.map cM), .list 4 (d.ws.map cW), vi d.k]]⟩), (192, ⟨116, 3, [[.ref (152, none) 0 y.m.length, .ref (153, none) 0 y.ws.length, vi y.k]]⟩), (240, ⟨116, 3, [[.ref (232, none) 0 d.m.length, .ref (233, none) 0 d.ws.length, vi d.k]]⟩), (264, ⟨120, 4, xs.map cDl⟩), (336, ⟨116, 3, [[.ref (296, none) 0 y.m.length, .ref (297, none) 0 y.ws.length, vi y.k]]⟩), (152, ⟨29, 1, y.m.map cR⟩), (153, ⟨32, 4, y.ws.map cW⟩), (232, ⟨29, 1, d.m.map cR⟩), (233, ⟨32, 4, d.ws.map cW⟩), (296, ⟨29, 1, y.m.map cR⟩), (297, ⟨32, 4, y.ws.map cW⟩)], 368⟩) (weak_ren [] mK (chkR_cons mK (chkR_cons mK (chkR_cons mK (chkRm rfl (by decide) rfl (fun _ => rfl) (fun a => by first | rfl | simp [okC]) (chkR_cons mK (chkRm rfl (by decide) rfl (fun _ => rfl) (fun a => by first | rfl | simp [okC]) (chkRm rfl (by decide) rfl (fun _ => rfl) (fun a => by first | rfl | simp [okC]) (chkRm rfl (by decide) rfl (fun _ => rfl) (fun a => by first | rfl | simp [okC]) (chkRm rfl (by decide) rfl (fun _ => rfl) (fun a => by first | rfl | simp [okC]) (chkRm rfl (by decide) rfl (fun _ => rfl) (fun a => by first | rfl | simp [okC]) (chkRm rfl (by decide) rfl (fun _ => rfl) (fun a => by first | rfl | simp [okC]) trivial))))))))))) mD mQ) ?_
  refine ev_rf mB ?_
  iterate 2 refine dr_act wN mb ma mc mT mR ?_
  refine dr_call wN mr mb mx (.cons (.agg (.cons (fM mr rfl) (.cons (fWS mr rfl) (.cons (fn rfl) .nil)))) (.cons (.agg (.cons (fM mr rfl) (.cons (fWS mr rfl) (.cons (fn rfl) .nil)))) .nil)) (c74s y (by assumption) (by assumption)) (Nat.le_of_ble_eq_true rfl) mv mT mN ?_
  iterate 2 refine dr_act wN mb ma mc mT mR ?_
  iterate 3 refine dr_act wG mb ma mc mT mR ?_
  iterate 2 refine dr_act wN mb ma mc mT mR ?_
  rw [show (n != n) = false from bne_self_eq_false _]
  iterate 3 refine dr_act wG mb ma mc mT mR ?_
  refine dr_act wN mb ma mc mT mR ?_
  refine dr_nil (h2 _ ?_); clear h2
  rw [show (ok == ok) = true from by cases ok <;> rfl]
  refine ev_cond false mlq (fun hz => by cases hz) (fun hz => ?_)
  refine ev_skip (h1 _ ?_); clear h1
  refine ev_seq fun K1 h1 => ?_
  refine ev_seq fun K2 h2 => ?_
  refine ev_reg mB ?_
  iterate 2 refine dr_act wN mb ma mc mT mR ?_
  refine dr_callF wN mr mb mx mr (c71 d mh mh mh) (Nat.le_of_ble_eq_true rfl) mv mT mN ?_
  refine dr_call wN mr mb mx (.cons (.agg (.cons (fM mr rfl) (.cons (fWS mr rfl) (.cons (fn rfl) .nil)))) (.cons (.agg (.cons (fM mr rfl) (.cons (fWS mr rfl) (.cons (fn rfl) .nil)))) .nil)) (c74s d (by assumption) (by assumption)) (Nat.le_of_ble_eq_true rfl) mv mT mN ?_
  refine dr_act wN mb ma mc mT mR ?_
  refine dr_nil ⟨fun _ => by kernel_rfl, h2 _ ?_⟩; clear h2
  refine ev_cond false mlq (fun hz => by cases hz) (fun hz => ?_)
  refine ev_skip (h1 _ ?_); clear h1
  refine ev_seq fun K1 h1 => ?_
  refine ev_seq fun K2 h2 => ?_
  refine ev_rf mB ?_
  iterate 2 refine dr_act wN mb ma mc mT mR ?_
  refine dr_callF wN mr mb mx mr (c79 xs mh) (Nat.le_of_ble_eq_true rfl) mv mT mN ?_
  refine dr_call wN mr mb mx (.cons (.cell (fDl mr rfl)) (.cons (.cell (fDl mr rfl)) .nil)) (c81s xs mh) (Nat.le_of_ble_eq_true rfl) mv mT mN ?_
  refine dr_act wN mb ma mc mT mR ?_
  refine dr_nil (h2 _ ?_); clear h2
  refine ev_cond false mlq (fun hz => by cases hz) (fun hz => ?_)
  refine ev_skip (h1 _ ?_); clear h1
  refine ev_seq fun K1 h1 => ?_
  refine ev_rf mB ?_
  refine dr_act wN mb ma mc mT mR ?_
  refine dr_nil (h1 _ ?_); clear h1
  refine ev_seq fun K1 h1 => ?_
  refine ev_rf mB ?_
  iterate 2 refine dr_act wN mb ma mc mT mR ?_
  refine dr_callR [232, 233] [] wN mr mbq mx (c75 d 1 mh mh mh mh) (.ren rfl rfl (.ren rfl rfl .nil)) ⟨⟨_, mr, rfl, rfl, rnMap (fun _ => rfl) _, okMM⟩, ⟨_, mr, rfl, rfl, rnMap (fun _ => rfl) _, okMap (fun _ => rfl) _⟩, trivial⟩ ⟨⟨by decide, nz⟩, Nat.le_of_ble_eq_true rfl⟩ (v := vi (1 + tot d.m + 4 * (d.ws.length : Nat))) rfl mT mRR2 ?_
  refine dr_act wN mb ma mc mT mR ?_
  refine dr_nil (h1 _ ?_); clear h1
  refine ev_seq fun K1 h1 => ?_
  refine ev_rf mB ?_
  iterate 2 refine dr_act wN mb ma mc mT mR ?_
  refine dr_callR [264] [] wN mr mbq mx (c82 xs (1 + tot d.m + 4 * (d.ws.length : Nat) : Int) hx ⟨by omega, by omega⟩) (.ren rfl rfl (.ren rfl rfl .nil)) ⟨⟨_, mr, rfl, rfl, rnMap (fun _ => rfl) _, okMap (fun _ => rfl) _⟩, trivial⟩ ⟨⟨by decide, nz⟩, Nat.le_of_ble_eq_true rfl⟩ (v := vi ((1 + tot d.m + 4 * (d.ws.length : Nat) : Int) + 4 * (xs.length : Nat))) rfl mT mRR2 ?_
  refine dr_act wN mb ma mc mT mR ?_
  refine dr_nil (h1 _ ?_); clear h1
  refine ev_seq fun K1 h1 => ?_
  refine ev_seq fun K2 h2 => ?_
  refine ev_weak (σ' := ⟨[(1, .list 4 (xs.map cDl)), (2, .ptr (0, none) 0 0), (4, vb false), (6, .ptr (192, none) 0 0), (7, vi n), (8, vb ok), (11, .ptr (336, none) 0 0), (12, vi n), (13, vb ok), (14, vi (1 + tot d.m + 4 * (d.ws.length : Nat) + 4 * (xs.length : Nat) : Int))], [(0, ⟨111, 3, [[.list 1 (d.m.map cM), .list 4 (d.ws.map cW), vi d.k]]⟩), (192, ⟨116, 3, [[.ref (152, none) 0 y.m.length, .ref (153, none) 0 y.ws.length, vi y.k]]⟩), (336, ⟨116, 3, [[.ref (296, none) 0 y.m.length, .ref (297, none) 0 y.ws.length, vi y.k]]⟩), (152, ⟨29, 1, y.m.map cR⟩), (153, ⟨32, 4, y.ws.map cW⟩), (296, ⟨29, 1, y.m.map cR⟩), (297, ⟨32, 4, y.ws.map cW⟩)], 632⟩) (weak_ren [] mK (chkR_cons mK (chkR_cons mK (chkR_cons mK (chkRm rfl (by decide) rfl (fun _ => rfl) (fun a => by first | rfl | simp [okC]) (chkRm rfl (by decide) rfl (fun _ => rfl) (fun a => by first | rfl | simp [okC]) (chkRm rfl (by decide) rfl (fun _ => rfl) (fun a => by first | rfl | simp [okC]) (chkRm rfl (by decide) rfl (fun _ => rfl) (fun a => by first | rfl | simp [okC]) trivial))))))) mD mQ) ?_
  refine ev_rf mB ?_
  iterate 3 refine dr_act wN mb ma mc mT mR ?_
  rw [show (decide ((1 + tot d.m + 4 * (d.ws.length : Nat) + 4 * (xs.length : Nat) : Int) < 0)) = false from decide_eq_false (by omega)]
  iterate 2 refine dr_act wG mb ma mc mT mR ?_
  refine dr_call wG mr mb mx (.cons (.agg (.cons (fM mr rfl) (.cons (fWS mr rfl) (.cons (fn rfl) .nil)))) (.cons (.agg (.cons (fM mr rfl) (.cons (fWS mr rfl) (.cons (fn rfl) .nil)))) .nil)) (c74s y (by assumption) (by assumption)) (Nat.le_of_ble_eq_true rfl) mv mT mN ?_
  refine dr_act wG mb ma mc mT mR ?_
  iterate 2 refine dr_act wN mb ma mc mT mR ?_
  iterate 3 refine dr_act wG mb ma mc mT mR ?_
  iterate 2 refine dr_act wN mb ma mc mT mR ?_
  rw [show (n != n) = false from bne_self_eq_false _]
  iterate 3 refine dr_act wG mb ma mc mT mR ?_
  refine dr_act wN mb ma mc mT mR ?_
  refine dr_nil (h2 _ ?_); clear h2
  rw [show (ok == ok) = true from by cases ok <;> rfl]
  refine ev_cond false mlq (fun hz => by cases hz) (fun hz => ?_)
  refine ev_skip (h1 _ ?_); clear h1
  refine ev_seq fun K1 h1 => ?_
  refine ev_rf mB ?_
  refine dr_act wN mb ma mc mT mR ?_
  refine dr_nil (h1 _ ?_); clear h1
  refine ev_seq fun K1 h1 => ?_
  refine ev_rf mB ?_
  iterate 2 refine dr_act wN mb ma mc mT mR ?_
  refine dr_callR [296, 297] [] wN mr mbq mx (c75 y 1 mh mh mh mh) (.ren rfl rfl (.ren rfl rfl .nil)) ⟨⟨_, mr, rfl, rfl, rnMap (fun _ => rfl) _, okMM⟩, ⟨_, mr, rfl, rfl, rnMap (fun _ => rfl) _, okMap (fun _ => rfl) _⟩, trivial⟩ ⟨⟨by decide, nz⟩, Nat.le_of_ble_eq_true rfl⟩ (v := vi (1 + tot y.m + 4 * (y.ws.length : Nat))) rfl mT mRR2 ?_
  refine dr_act wN mb ma mc mT mR ?_
  refine dr_nil (h1 _ ?_); clear h1
  refine ev_seq fun K1 h1 => ?_
  refine ev_rf mB ?_
  refine dr_act wN mb ma mc mT mR ?_
  refine dr_nil (h1 _ ?_); clear h1
  refine ev_seq fun K1 h1 => ?_
  refine ev_rf mB ?_
  iterate 2 refine dr_act wN mb ma mc mT mR ?_
  refine dr_call wN mr mb mx (.cons (.agg (.cons (fM mr (by simp only [mkM_length, mkW_len])) (.cons (fWS mr (by simp only [mkM_length, mkW_len])) (.cons (fn rfl) .nil)))) (.cons (fN rfl) .nil)) (c76 ⟨mkM 1 y.m, mkW (1 + tot y.m) y.ws.length, y.k⟩ 1 (by decide) (by first | (rw [mkM_tot]; omega) | (dsimp only; rw [mkM_tot]; omega)) (by first | (rw [mkM_length]; omega) | (dsimp only; rw [mkM_length]; omega)) (by first | (rw [mkW_len]; omega) | (dsimp only; rw [mkW_len]; omega))) (Nat.le_of_ble_eq_true rfl) mv mT mN ?_
  rw [hdD_mk]
  refine dr_act wN mb ma mc mT mR ?_
  refine dr_nil (h1 _ ?_); clear h1
  refine ev_seq fun K1 h1 => ?_
  refine ev_seq fun K2 h2 => ?_
  refine ev_rf mB ?_
  iterate 2 refine dr_act wN mb ma mc mT mR ?_
  refine dr_nil (h2 _ ?_); clear h2
  rw [show (decide ((1 + tot y.m + 4 * (y.ws.length : Nat) : Int) < 0)) = false from decide_eq_false (by omega)]
  refine ev_cond false mlq (fun hz => by cases hz) (fun hz => ?_)
  refine ev_skip (h1 _ ?_); clear h1
  refine ev_seq fun K1 h1 => ?_
  refine ev_seq fun K2 h2 => ?_
  refine ev_rf mB ?_
  iterate 3 refine dr_act wN mb ma mc mT mR ?_
  refine dr_nil (h2 _ ?_); clear h2
  rw [show ((1 + tot y.m + 4 * (y.ws.length : Nat) : Int) != (1 + tot y.m + 4 * (y.ws.length : Nat) : Int)) = false from bne_self_eq_false _]
  refine ev_cond false mlq (fun hz => by cases hz) (fun hz => ?_)
  refine ev_skip (h1 _ ?_); clear h1
  refine ev_seq fun K1 h1 => ?_
  refine ev_weak (σ' := ⟨[(1, .list 4 (xs.map cDl)), (2, .ptr (0, none) 0 0), (4, vb false), (6, .ptr (192, none) 0 0), (7, vi n), (8, vb ok), (11, .ptr (336, none) 0 0), (15, vi (1 + tot y.m + 4 * (y.ws.length : Nat) : Int)), (16, vi (1 + tot y.m + 4 * (y.ws.length : Nat) : Int))], [(0, ⟨111, 3, [[.list 1 (d.m.map cM), .list 4 (d.ws.map cW), vi d.k]]⟩), (192, ⟨116, 3, [[.ref (152, none) 0 y.m.length, .ref (153, none) 0 y.ws.length, vi y.k]]⟩), (336, ⟨116, 3, [[.ref (296, none) 0 y.m.length, .ref (297, none) 0 y.ws.length, vi y.k]]⟩), (152, ⟨29, 1, y.m.map cR⟩), (153, ⟨32, 4, y.ws.map cW⟩), (296, ⟨29, 1, (mkM 1 y.m).map cR⟩), (297, ⟨32, 4, (mkW (1 + tot y.m) y.ws.length).map cW⟩)], 896⟩) (weak_ren [] mK (chkR_cons mK (chkR_cons mK (chkR_cons mK (chkRm rfl (by decide) rfl (fun _ => rfl) (fun a => by first | rfl | simp [okC]) (chkRm rfl (by decide) rfl (fun _ => rfl) (fun a => by first | rfl | simp [okC]) (chkRm rfl (by decide) rfl (fun _ => rfl) (fun a => by first | rfl | simp [okC]) (chkRm rfl (by decide) rfl (fun _ => rfl) (fun a => by first | rfl | simp [okC]) trivial))))))) mD mQ) ?_
  refine ev_rf mB ?_
  refine dr_act wN mb ma mc mT mR ?_
  refine dr_callF wN mr mb mx mr (c71 d mh mh mh) (Nat.le_of_ble_eq_true rfl) mv mT mN ?_
  refine dr_act wN mb ma mc mT mR ?_
  refine dr_callF wN mr mb mx mr (c79 xs mh) (Nat.le_of_ble_eq_true rfl) mv mT mN ?_
  refine dr_call wN mr mb mx (.cons (.agg (.cons (fM mr rfl) (.cons (fWS mr rfl) (.cons (fn rfl) .nil)))) (.cons (.cell (fDl mr rfl)) .nil)) (c80y d xs y n ok mh mh mh mh mh mh mh) (Nat.le_of_ble_eq_true rfl) mv mT mN ?_
  iterate 8 refine dr_act wN mb ma mc mT mR ?_
  refine dr_nil (h1 _ ?_); clear h1
  refine ev_seq fun K1 h1 => ?_
  refine ev_seq fun K2 h2 => ?_
  refine ev_rf mB ?_
  iterate 2 refine dr_act wN mb ma mc mT mR ?_
  refine dr_call wN mr mb mx (.cons (.agg (.cons (fM mr rfl) (.cons (fWS mr rfl) (.cons (fn rfl) .nil)))) (.cons (.agg (.cons (fM mr rfl) (.cons (fWS mr rfl) (.cons (fn rfl) .nil)))) .nil)) (c74s y (by assumption) (by assumption)) (Nat.le_of_ble_eq_true rfl) mv mT mN ?_
  iterate 2 refine dr_act wN mb ma mc mT mR ?_
  iterate 3 refine dr_act wG mb ma mc mT mR ?_
  iterate 2 refine dr_act wN mb ma mc mT mR ?_
  rw [show (n != n) = false from bne_self_eq_false _]
  iterate 3 refine dr_act wG mb ma mc mT mR ?_
  refine dr_act wN mb ma mc mT mR ?_
  refine dr_nil (h2 _ ?_); clear h2
  rw [show (ok == ok) = true from by cases ok <;> rfl]
  refine ev_cond false mlq (fun hz => by cases hz) (fun hz => ?_)
  refine ev_skip (h1 _ ?_); clear h1
  refine ev_seq fun K1 h1 => ?_
  refine ev_rf mB ?_
  refine dr_act wN mb ma mc mT mR ?_
  refine dr_nil (h1 _ ?_); clear h1
  refine ev_seq fun K1 h1 => ?_
  refine ev_rf mB ?_
  iterate 2 refine dr_act wN mb ma mc mT mR ?_
  refine dr_call wN mr mb mx (.cons (.agg (.cons (fM mr (by simp only [mkM_length, mkW_len])) (.cons (fWS mr (by simp only [mkM_length, mkW_len])) (.cons (fn rfl) .nil)))) (.cons (fN rfl) .nil)) (c76 ⟨mkM 1 y.m, mkW (1 + tot y.m) y.ws.length, y.k⟩ 1 (by decide) (by first | (rw [mkM_tot]; omega) | (dsimp only; rw [mkM_tot]; omega)) (by first | (rw [mkM_length]; omega) | (dsimp only; rw [mkM_length]; omega)) (by first | (rw [mkW_len]; omega) | (dsimp only; rw [mkW_len]; omega))) (Nat.le_of_ble_eq_true rfl) mv mT mN ?_
  rw [hdD_mk]
  refine dr_act wN mb ma mc mT mR ?_
  refine dr_nil (h1 _ ?_); clear h1
  refine ev_seq fun K1 h1 => ?_
  refine ev_seq fun K2 h2 => ?_
  refine ev_rf mB ?_
  iterate 2 refine dr_act wN mb ma mc mT mR ?_
  refine dr_nil (h2 _ ?_); clear h2
  rw [show (decide ((1 + tot y.m + 4 * (y.ws.length : Nat) : Int) < 0)) = false from decide_eq_false (by omega)]
  refine ev_cond false mlq (fun hz => by cases hz) (fun hz => ?_)
  refine ev_skip (h1 _ ?_); clear h1
  refine ev_seq fun K1 h1 => ?_
  refine ev_seq fun K2 h2 => ?_
  refine ev_rf mB ?_
  iterate 3 refine dr_act wN mb ma mc mT mR ?_
  refine dr_nil (h2 _ ?_); clear h2
  rw [show ((1 + tot y.m + 4 * (y.ws.length : Nat) : Int) != (1 + tot y.m + 4 * (y.ws.length : Nat) : Int)) = false from bne_self_eq_false _]
  refine ev_cond false mlq (fun hz => by cases hz) (fun hz => ?_)
  refine ev_skip (h1 _ ?_); clear h1
  refine ev_seq fun K1 h1 => ?_
  refine ev_weak (σ' := ⟨[(4, vb false)], [], 1192⟩) (weak_ren [] mK mK mD mQ) ?_
  refine ev_rf mB ?_
  refine dr_act wN mb ma mc mT mR ?_
  refine dr_nil (h1 _ ?_); clear h1
  refine ev_ret ?_
  exact retT [4] (hv := rfl)

theorem c12 (d : Dk) (xs : List Dl) (hl : Len d.m) (hw1 : d.ws.length ≤ maxLen) (hxm : xs.length ≤ maxLen) : Good Try.prog 12 [eD d, eDls xs] (vb true) [] := c12y d xs _ _ _ hl hw1 hxm rfl rfl rfl
end Go.Ev
namespace Go.Ev
open Go Go.RowKit Go.Proofs

theorem rd3 : RdT Try.prog 3 1 (fun n : Int => [vi n]) (fun _ => True) := (rd_int Try.underlying3).map id (fun _ => rfl) (fun _ _ => trivial)
theorem rd5 : RdT Try.prog 5 1 cB (fun _ => True) := (rd_int Try.underlying5).map id (fun _ => rfl) (fun _ _ => trivial)
theorem rd29 : RdT Try.prog 29 1 cM (fun l => l.length ≤ maxLen) := (rd_slice rd5 (by decide) (by kernel_rfl) Try.underlying29).map id (fun _ => rfl) (fun _ h => h.1)
theorem rd22 : RdT Try.prog 22 1 (fun m => [eM m]) Len := (rd_slice rd29 (by decide) (by kernel_rfl) Try.underlying22).map id (fun _ => rfl) (fun _ h => h)
theorem rd24 : RdT Try.prog 24 1 (fun m => [eM m]) Len := (rd_struct Try.underlying24 (by kernel_rfl) (rdF_cons rd22 rfl (by kernel_rfl) (rdF_nil _))).map (fun p => p.1) (fun _ => rfl) (fun _ h => h.1)
theorem rd26 : RdT Try.prog 26 4 cW (fun _ => True) := (rd_struct Try.underlying26 (by kernel_rfl) (rdF_cons rd3 rfl (by kernel_rfl) (rdF_cons rd3 rfl (by kernel_rfl) (rdF_cons rd3 rfl (by kernel_rfl) (rdF_cons rd3 rfl (by kernel_rfl) (rdF_nil _)))))).map (fun p => ⟨p.1, p.2.1, p.2.2.1, p.2.2.2.1⟩) (fun _ => rfl) (fun _ _ => trivial)
theorem rd28 : RdT Try.prog 28 7 (fun g : Gp => cG (eM g.m) g) (fun g => Len g.m) := (rd_struct Try.underlying28 (by kernel_rfl) (rdF_cons rd24 rfl (by kernel_rfl) (rdF_cons rd26 rfl (by kernel_rfl) (rdF_cons rd3 rfl (by kernel_rfl) (rdF_cons rd3 rfl (by kernel_rfl) (rdF_nil _)))))).map (fun p => ⟨p.1, p.2.1, p.2.2.1, p.2.2.2.1⟩) (fun _ => rfl) (fun _ h => h.1)
theorem rd45 : RdT Try.prog 45 3 (fun e : Ed => cE (eB e.s) e) (fun e => e.s.length ≤ maxLen) := (rd_struct Try.underlying45 (by kernel_rfl) (rdF_cons rd3 rfl (by kernel_rfl) (rdF_cons rd3 rfl (by kernel_rfl) (rdF_cons rd29 rfl (by kernel_rfl) (rdF_nil _))))).map (fun p => ⟨p.1, p.2.1, p.2.2.1⟩) (fun _ => rfl) (fun _ h => h.2.2.1)
end Go.Ev
namespace Go.Ev
open Go Go.RowKit Go.Proofs
theorem rd92 : RdT Try.prog 92 1 (fun ws => [eWS ws]) (fun ws => ws.length ≤ maxLen) := (rd_slice rd26 (by decide) (by kernel_rfl) Try.underlying92).map id (fun _ => rfl) (fun _ h => h.1)
theorem rd111 : RdT Try.prog 111 3 (fun d : Dk => [eM d.m, eWS d.ws, vi d.k]) (fun d => Len d.m ∧ d.ws.length ≤ maxLen) := (rd_struct Try.underlying111 (by kernel_rfl) (rdF_cons rd24 rfl (by kernel_rfl) (rdF_cons rd92 rfl (by kernel_rfl) (rdF_cons rd3 rfl (by kernel_rfl) (rdF_nil _))))).map (fun p => ⟨p.1, p.2.1, p.2.2.1⟩) (fun _ => rfl) (fun _ h => ⟨h.1, h.2.1⟩)
theorem rd113 : RdT Try.prog 113 4 (fun x : Dl => [vi x.t, vi x.a, vi x.b, vi x.c]) (fun _ => True) := (rd_struct Try.underlying113 (by kernel_rfl) (rdF_cons rd3 rfl (by kernel_rfl) (rdF_cons rd3 rfl (by kernel_rfl) (rdF_cons rd3 rfl (by kernel_rfl) (rdF_cons rd3 rfl (by kernel_rfl) (rdF_nil _)))))).map (fun p => ⟨p.1, p.2.1, p.2.2.1, p.2.2.2.1⟩) (fun _ => rfl) (fun _ _ => trivial)
theorem rd125 : RdT Try.prog 125 1 (fun xs => [eDls xs]) (fun xs => xs.length ≤ maxLen) := (rd_slice rd113 (by decide) (by kernel_rfl) Try.underlying125).map id (fun _ => rfl) (fun _ h => h.1)
end Go.Ev
namespace Go.Proofs.Ytmkcbbbknbahgaa.fnExactDoDeals
open Go.ChangeShapes Go.WideShapes Go.ChangeAt Go.RowKit
open Go.ChangeMaps (shut_string)
theorem own : ownKnob Try.prog.godebug = none := by kernel_rfl
theorem laidOut : laidOutB Try.prog = true := by kernel_rfl
set_option maxRecDepth 100000 in
set_option maxHeartbeats 2000000 in
theorem lifted (os : Os) (started : os.Started) (H : Type) (enc : TypeId × Value → H) :
    ReturnsInHanded {} Try.checked os 12 .any (Rows.fnExactDoDealsSpec.pre6 enc Try.prog Try.f12 Rows.fnExactDoDealsRow.domain false) (Rows.fnExactDoDealsSpec.post enc Try.prog Try.f12 false true false false) := by
  refine returnsInHanded_of_change_sized (C := Try.checked) own started (by kernel_rfl) Try.func12
    (ChangeSpec.witness6 (enc := enc) (C := Try.checked) false ⟨#[], #[.agg #[.slice none 0 0, .slice none 0 0, .int .i64 0], .slice none 0 0], []⟩ 8 (by kernel_rfl) (by kernel_rfl) (by kernel_rfl) (by kernel_rfl)) ?_
  intro W base args ds gs before hval0 hW hcnd hsz0 _
  have hval : ∀ (j : Nat) t v, Try.f12.params[j]? = some t → args[j]? = some v → Value.okWide Try.prog W .any base t v := hval0
  have hW' := hW
  obtain ⟨p, q, hA0, hV, rfl, hfz, hnd⟩ := hW
  have hA : DataW.TrodAll enc Try.prog W 0 (fun _ => true) true Try.f12.params.toList args.toList ds p := hA0
  rw [Try.params12] at hA hval
  obtain ⟨v0, vs0, d0, ds0, p0, q0, hargs, rfl, rfl, h0, r0⟩ := trodAll_cons hA
  obtain ⟨v1, vs1, d1, ds1, p1, q1, rfl, rfl, rfl, h1, r1⟩ := trodAll_cons r0
  obtain ⟨rfl, rfl, rfl⟩ := trodAll_nil r1
  obtain rfl : args = #[v0, v1] := by cases args; simp_all
  obtain ⟨rfl, rfl⟩ := trodVars_none hV
  obtain ⟨cs0, rfl, _⟩ := okWide_struct Try.underlying111 (hval 0 111 v0 rfl rfl)
  have lt0 : ∀ x ∈ p0, x.block < W.heap.size := by obtain ⟨m, hm⟩ := h0; exact DataW.trod_lt m _ _ _ hm
  obtain ⟨A1, len1, c1, rfl⟩ := okWide_slice Try.underlying125 (hval 1 125 v1 rfl rfl)
  have lt1 : ∀ x ∈ p1, x.block < W.heap.size := by obtain ⟨m, hm⟩ := h1; exact DataW.trod_lt m _ _ _ hm
  obtain ⟨x0, y0, z0⟩ := Go.Ev.RdT.agg Go.Ev.rd111 h0
  obtain ⟨x1, y1, z1⟩ := Go.Ev.RdT.one Go.Ev.rd125 h1 rfl
  clear hA0 hval0 hsz0
  refine ((Go.Ev.c12 x0 x1 y0.1 y0.2 y1).2 W (Go.Ev.FW W) #[.agg cs0, .slice A1 len1 c1] (fun _ h => h) rfl (fun i v x h1 h2 => ?_)).mono ?_
  · rcases i with _ | _ | i
    · simp at h1 h2; subst h1; subst h2; exact z0
    · simp at h1 h2; subst h1; subst h2; exact z1
    · simp at h2
  rintro e W' ⟨v', C', rfl, rfl, _, _, hV', bel, _⟩
  obtain rfl := hV'.val_inv
  exact ⟨_, rfl, _, _, _, [], _, [], hW', trodAll_mk1 (shut_bool Try.underlying4 _), (trodAll_cons_mk (Below.trod laidOut (by kernel_rfl) (of_decide_eq_true (by kernel_rfl)) h0 bel lt0) (trodAll_cons_mk (Below.trod laidOut (by kernel_rfl) (of_decide_eq_true (by kernel_rfl)) h1 bel lt1) trodAll_mk0)), rfl, bel.frame _, fun h => by cases h⟩
theorem cl1 : Try.pinned.checked.prog.funcNamed Rows.fnExactDoDealsRow.func = some 12 := by kernel_rfl
theorem cl2 : joinedFacts Try.pinned.checked.prog 12 Try.f12 Rows.fnExactDoDealsSpec Rows.fnExactDoDealsRow = true := by kernel_rfl
theorem cl3 : Try.f12.isInstance Try.pinned.checked.prog Rows.fnExactDoDealsRow.origin Rows.fnExactDoDealsRow.targs := of_decide_eq_true (by kernel_rfl)
theorem cl4 : Try.f12.isWrapper Try.pinned.checked.prog Rows.fnExactDoDealsRow.wrapper Rows.fnExactDoDealsRow.mainSum := (by unfold Func.isWrapper; first | (rw [if_pos (by decide +kernel)]; kernel_rfl) | (rw [if_neg (by decide +kernel)]; exact ⟨rfl, rfl⟩))
theorem over : Rows.fnExactDoDealsRow.holds Try.pinned (OpenSpec.ofChange Rows.fnExactDoDealsSpec) :=
  OpenClaim.holds_of_wide 12 Try.f12 rfl rfl rfl rfl rfl rfl rfl ⟨rfl, rfl, rfl, rfl, rfl⟩ rfl rfl rfl rfl rfl cl1 Try.func12 cl2 cl3 cl4
    (fun os started H enc _ => lifted os started H enc)
theorem proved : Rows.FnExactDoDealsSaid := over
#print axioms proved
end Go.Proofs.Ytmkcbbbknbahgaa.fnExactDoDeals
namespace Go.Proofs.Ytmkcbbbknbahgaa
/-- The row, under a short name, for the claim. -/
theorem fnExactDoDeals_holds : Rows.FnExactDoDealsSaid := fnExactDoDeals.proved
end Go.Proofs.Ytmkcbbbknbahgaa
