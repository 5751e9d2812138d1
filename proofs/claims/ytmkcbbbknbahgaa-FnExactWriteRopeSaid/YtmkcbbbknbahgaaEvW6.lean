/- Part 6 of the proof: the evaluator and the contracts of functions. -/
import Derived.Below
import Derived.KernelRfl
import Derived.Laws.AppendOwn
import Derived.Laws.CopyRow
import Derived.Laws.Entries
import Derived.Laws.IdiomCopy
import Derived.Laws.MakeOwn
import Derived.Laws.OwnMore
import Derived.Orders
import Derived.Test.YtmkcbbbknbahgaaProg
import Derived.Test.YtmkcbbbknbahgaaEvW5
set_option linter.unusedVariables false
set_option linter.unusedSimpArgs false
namespace Go.Ev
open Go Go.RowKit Go.Proofs

abbrev eR (ws : List Win) : V := .agg [eWS ws]
abbrev oR (n : Nat) (ws : List Win) : V := .agg [.ref (n, none) 0 ws.length]

theorem fWS {R : Rs} {n : Nat} {ws : List Win} {k : Nat} (h : R n = some (rWS ws)) (hk : k = ws.length) : FrzC R (.ref (n, none) 0 k) (eWS ws) := by
  refine .ref (xs := ws.map cW) (zs := ws.map cW) (by rw [act_of h]) (cut_all (by rw [hk]; exact List.length_map ..)) (norow_noN0 ?_)
  refine List.all_eq_true.2 fun x hx => ?_
  obtain ⟨a, _, rfl⟩ := List.mem_map.1 hx
  rfl
theorem fR {R : Rs} {n : Nat} {ws : List Win} (h : R n = some (rWS ws)) : Frz R (oR n ws) (eR ws) := .agg (.cons (fWS h rfl) .nil)

theorem handW {R : Rs} {n : Nat} {ws : List Win} (h : R n = some (rWS ws)) : HandL R [n] 1 [n] [rWS ws] :=
  ⟨⟨_, h, rfl, rfl, rnMap (fun _ => rfl) ws, okMap (fun _ => rfl) ws⟩, trivial⟩
theorem wrW {R : List (Nat × Root)} {n b : Nat} {ws : List Win} : applyW R (wrR [n] [] b [some (rWS ws)]) = (n, rWS ws) :: dropR R n := by
  have e : ∀ ρ, rnR ρ (rWS ws) = rWS ws := fun ρ => by
    show Root.mk 32 4 ((ws.map cW).map (·.map (rnC ρ))) = _
    rw [← rnMap (fun _ => rfl)]
  simp only [wrR, newR, upN, List.map_nil, List.nil_append, Option.map_some, e]
  rfl
theorem okRW {ws : List Win} : (rWS ws).els.all (·.all pcell) = true := pure_map fun _ => rfl

theorem szWS_neg {ws : List Win} {k : Int} (h : szWS ws k < 0) (h0 : 0 ≤ k) : szWS ws k = -1 := by
  unfold szWS at h ⊢
  split
  · rfl
  · rename_i hc; rw [if_neg hc] at h; omega

theorem c56 (ws : List Win) (k : Int) (hl : ws.length ≤ maxLen) (h0 : 0 ≤ k ∧ k ≤ 1048576) : Good Try.prog 56 [eR ws, vi k] (vi (szWS ws k)) [] := by
  refine good_of (E := En 12) (fn := Try.f56) (by kernel_rfl) (by kernel_rfl) rfl rfl (by simp only [List.length_cons, List.length_nil]; decide) (fun C0 => ?_)
  simp only [argT, Nat.reduceAdd]
  refine ev_seq fun K1 h1 => ev_rf mB ?_
  repeat refine dr_act wN mb ma mc mT mR ?_
  refine dr_nil (h1 _ ?_); clear h1 K1
  refine ev_seq fun K1 h1 => ev_rf mB ?_
  repeat refine dr_act wN mb ma mc mT mR ?_
  refine dr_callF wN mr mb mx mr (c114 ws k hl h0) (Nat.le_of_ble_eq_true rfl) mv mT mN ?_
  repeat refine dr_act wN mb ma mc mT mR ?_
  refine dr_nil (h1 _ ?_); clear h1 K1
  refine ev_seq fun K1 h1 => ev_seq fun K2 h2 => ev_rf mB ?_
  repeat refine dr_act wN mb ma mc mT mR ?_
  refine dr_nil (h2 _ ?_); clear h2 K2
  refine ev_cond _ ml (fun h => ?_) (fun h => ev_skip (h1 _ ?_))
  · have hlt := of_decide_eq_true h
    refine ev_seq fun K2 h2 => ev_rf mB ?_
    repeat refine dr_act wN mb ma mc mT mR ?_
    refine dr_nil (h2 _ (ev_ret ?_)); clear h2 h1
    exact retT [4] (hv := by rw [szWS_neg hlt h0.1]; rfl)
  · clear h1 K1
    refine ev_seq fun K2 h2 => ev_rf mB ?_
    repeat refine dr_act wN mb ma mc mT mR ?_
    refine dr_nil (h2 _ (ev_ret ?_)); clear h2
    exact retT [4] (hv := rfl)

theorem c59 (ws : List Win) (hl : ws.length ≤ 1048576) : Good Try.prog 59 [eR ws] (oR 0 ws) [rWS ws] := by
  refine good_of (E := En 9) (fn := Try.f59) (by kernel_rfl) (by kernel_rfl) rfl rfl (by simp only [List.length_cons, List.length_nil]; decide) (fun C0 => ?_)
  simp only [argT, Nat.reduceAdd]
  iterate 2
    refine ev_seq fun K1 h1 => ev_rf mB ?_
    repeat refine dr_act wN mb ma mc mT mR ?_
    refine dr_nil (h1 _ ?_); clear h1 K1
  refine ev_seq fun K1 h1 => ev_rf mB ?_
  repeat refine dr_act wN mb ma mc mT mR ?_
  refine dr_callF wN mr mb mx mr (c121 ws hl) (Nat.le_of_ble_eq_true rfl) mv mT mN ?_
  repeat refine dr_act wN mb ma mc mT mR ?_
  refine dr_nil (h1 _ ?_); clear h1 K1
  refine ev_seq fun K1 h1 => ev_rf mB ?_
  repeat refine dr_act wN mb ma mc mT mR ?_
  refine dr_nil (h1 _ (ev_ret ?_)); clear h1
  exact retC [40] (hR := ⟨⟨rfl, okRW⟩, trivial⟩)

theorem c62 (a b : List Win) (hl : a.length ≤ maxLen) : Good Try.prog 62 [eR a, eR b] (vb (decide (a = b))) [] := by
  refine good_of (E := En 11) (fn := Try.f62) (by kernel_rfl) (by kernel_rfl) rfl rfl (by simp only [List.length_cons, List.length_nil]; decide) (fun C0 => ?_)
  simp only [argT, Nat.reduceAdd]
  refine ev_seq fun K1 h1 => ev_rf mB ?_
  repeat refine dr_act wN mb ma mc mT mR ?_
  refine dr_nil (h1 _ ?_); clear h1 K1
  refine ev_seq fun K1 h1 => ev_seq fun K2 h2 => ev_rf mB ?_
  repeat refine dr_act wN mb ma mc mT mR ?_
  refine dr_callF wN mr mb mx mr (c50 a b hl) (Nat.le_of_ble_eq_true rfl) mv mT mN ?_
  repeat refine dr_act wN mb ma mc mT mR ?_
  refine dr_nil (h2 _ ?_); clear h2 K2
  refine ev_cond _ ml (fun h => ?_) (fun h => ev_skip (h1 _ ?_))
  · refine ev_seq fun K2 h2 => ev_rf mB ?_
    repeat refine dr_act wN mb ma mc mT mR ?_
    refine dr_nil (h2 _ (ev_ret ?_)); clear h2 h1
    have e : ¬ a = b := by simpa using h
    exact retT [4] (hv := by rw [decide_eq_false e]; rfl)
  have e1 : a = b := by simpa using h
  clear h1 K1 h
  refine ev_seq fun K2 h2 => ev_rf mB ?_
  repeat refine dr_act wN mb ma mc mT mR ?_
  refine dr_nil (h2 _ (ev_ret ?_)); clear h2
  exact retT [4] (hv := by rw [decide_eq_true e1]; rfl)

theorem c64 (ws : List Win) (k : Int) (hl : ws.length ≤ 1048576) (hk : 0 ≤ k) (hk2 : k ≤ 4000000) :
    GoodR Try.prog 64 [oR 0 ws, vi k] [rWS ws] (vi (k + 4 * (ws.length : Nat))) [some (rWS (mkW k ws.length))] := by
  refine goodR_of (E := En 10 1) (fn := Try.f64) (by kernel_rfl) (by kernel_rfl) rfl rfl (by simp only [List.length_cons, List.length_nil]; decide) ⟨rfl, Nat.le_refl 1⟩ rfl ⟨okMap (fun _ => rfl) _, trivial⟩ (fun C0 => ?_)
  simp only [argT, rsT, Nat.reduceAdd, List.length_cons, List.length_nil]
  refine ev_seq fun K1 h1 => ev_rf mB ?_
  repeat refine dr_act wN mb ma mc mT mR ?_
  refine dr_nil (h1 _ ?_); clear h1 K1
  refine ev_seq fun K1 h1 => ev_rf mB ?_
  repeat refine dr_act wN mb ma mc mT mR ?_
  refine dr_callR [0] [] wN mr mb mx (c53 ws k hl hk hk2) (.ren rfl rfl (.ren rfl rfl .nil)) (handW mr) ⟨⟨by decide, nz⟩, Nat.le_of_ble_eq_true rfl⟩ (v := vi (k + 4 * (ws.length : Nat))) rfl mT (wrW.trans mRd) ?_
  repeat refine dr_act wN mb ma mc mT mR ?_
  refine dr_nil (h1 _ ?_); clear h1
  refine ev_seq fun K1 h1 => ev_rf mB ?_
  repeat refine dr_act wN mb ma mc mT mR ?_
  refine dr_nil (h1 _ (ev_ret ?_)); clear h1
  exact retRT [] [4] (hR := ⟨⟨_, rfl, rfl, rfl, rnMap (g := cW) (fun _ => rfl) _⟩, trivial⟩)

def hdW (ws : List Win) (k : Int) : Int := if ws = mkW k ws.length then k + 4 * (ws.length : Nat) else -1

theorem c66 (ws : List Win) (k : Int) (hl : ws.length ≤ 1048576) (hk : 0 ≤ k) (hk2 : k ≤ 4000000) : Good Try.prog 66 [eR ws, vi k] (vi (hdW ws k)) [] := by
  refine good_of (E := En 12) (fn := Try.f66) (by kernel_rfl) (by kernel_rfl) rfl rfl (by simp only [List.length_cons, List.length_nil]; decide) (fun C0 => ?_)
  have hneg : hdW ws k < 0 → hdW ws k = -1 := by
    intro h
    unfold hdW at h ⊢
    split
    · rename_i e; rw [if_pos e] at h; omega
    · rfl
  simp only [argT, Nat.reduceAdd]
  refine ev_seq fun K1 h1 => ev_rf mB ?_
  repeat refine dr_act wN mb ma mc mT mR ?_
  refine dr_nil (h1 _ ?_); clear h1 K1
  refine ev_seq fun K1 h1 => ev_rf mB ?_
  repeat refine dr_act wN mb ma mc mT mR ?_
  refine dr_callF wN mr mb mx mr (c54 ws k hl hk hk2) (Nat.le_of_ble_eq_true rfl) mv mT mN ?_
  repeat refine dr_act wN mb ma mc mT mR ?_
  refine dr_nil (h1 _ ?_); clear h1 K1
  refine ev_seq fun K1 h1 => ev_seq fun K2 h2 => ev_rf mB ?_
  repeat refine dr_act wN mb ma mc mT mR ?_
  refine dr_nil (h2 _ ?_); clear h2 K2
  refine ev_cond (decide (hdW ws k < 0)) ml (fun h => ?_) (fun h => ev_skip (h1 _ ?_))
  · have hlt := of_decide_eq_true h
    refine ev_seq fun K2 h2 => ev_rf mB ?_
    repeat refine dr_act wN mb ma mc mT mR ?_
    refine dr_nil (h2 _ (ev_ret ?_)); clear h2 h1
    exact retT [4] (hv := by rw [hneg hlt]; rfl)
  · clear h1 K1
    refine ev_seq fun K2 h2 => ev_rf mB ?_
    repeat refine dr_act wN mb ma mc mT mR ?_
    refine dr_nil (h2 _ (ev_ret ?_)); clear h2
    exact retT [4] (hv := rfl)
end Go.Ev
namespace Go.Ev
open Go Go.RowKit Go.Proofs

def okR (m : List (List Int)) (ws : List Win) : Bool := okM m && ws.all (okW m) && decide ((ws.length : Int) ≤ 12)

theorem take_w {ws : List Win} {i : Nat} (h : i < ws.length) : ws.take (i + 1) = ws.take i ++ [ws.getD i wz] := by
  rw [List.take_succ_eq_append_getElem h, List.getD_eq_getElem?_getD, List.getElem?_eq_getElem h]; rfl
theorem mem_w {ws : List Win} {i : Nat} (h : i < ws.length) : ws.getD i wz ∈ ws := by
  rw [List.getD_eq_getElem?_getD, List.getElem?_eq_getElem h]; exact List.getElem_mem h

theorem c132 (m : List (List Int)) (ws : List Win) (hl1 : m.length ≤ 1048576) (hl2 : ∀ r, r ∈ m → r.length ≤ 1048576) (hw : ws.length ≤ 1048576) : Good Try.prog 132 [eMem m, eR ws] (vb (okR m ws)) [] := by
  refine good_of (E := En 33) (fn := Try.f132) (by kernel_rfl) (by kernel_rfl) rfl rfl (by simp only [List.length_cons, List.length_nil]; decide) (fun C0 => ?_)
  simp only [argT, eR, eWS]
  refine ev_seq fun K1 h1 => ev_rf mB ?_
  repeat refine dr_act wN mb ma mc mT mR ?_
  refine dr_nil (h1 _ ?_); clear h1 K1
  refine ev_seq fun K1 h1 => ?_
  refine ev_seq fun K2 h2 => ev_rf mB ?_
  repeat refine dr_act wN mb ma mc mT mR ?_
  refine dr_nil (h2 _ ?_); clear h2 K2
  refine ev_block (ev_loop (α := {i : Nat // i ≤ ws.length ∧ (ws.take i).all (okW m) = true}) (fun i => ⟨[(2, .ptr (0, none) 0 0), (3, .ptr (8, none) 0 0), (5, vi i.1)], [(0, ⟨31, 1, [[eM m]]⟩), (8, ⟨98, 1, [[.list 4 (ws.map cW)]]⟩)], 32⟩) (fun i => ws.length - i.1) ⟨0, Nat.zero_le _, rfl⟩ (weak_ren [] mK mK mD mQ) (fun ⟨i, hi, ht⟩ => ?_))
  refine ev_seq fun K2 h2 => ev_seq fun K3 h3 => ev_rf mB ?_
  repeat refine dr_act wN mb ma mc mT mR ?_
  cases hd : decide ((i : Int) < (ws.length : Nat))
  · have hge := of_decide_eq_false hd
    obtain rfl : i = ws.length := by omega
    rw [List.take_length] at ht
    iterate 2 refine dr_skip wG mT ?_
    repeat refine dr_act wN mb ma mc mT mR ?_
    refine dr_nil (h3 _ ?_); clear h3
    refine ev_cond false mlq (fun h => by cases h) (fun h => ev_exit ?_)
    simp only [seqK, loopK, blkK, ↓reduceIte]
    refine h1 _ ?_; clear h1 h2
    refine ev_seq fun K1 h1 => ev_rf mB ?_
    repeat refine dr_act wN mb ma mc mT mR ?_
    refine dr_callF wN mr mb mx mr (c164 m (by omega)) (Nat.le_of_ble_eq_true rfl) mv mT mN ?_
    repeat refine dr_act wN mb ma mc mT mR ?_
    cases hM : okM m
    · iterate 4 refine dr_skip wG mT ?_
      repeat refine dr_act wN mb ma mc mT mR ?_
      refine dr_nil (h1 _ (ev_ret ?_)); clear h1
      exact retT [4] (hv := by rw [okR, hM]; rfl)
    repeat refine dr_act wG mb ma mc mT mR ?_
    repeat refine dr_act wN mb ma mc mT mR ?_
    refine dr_nil (h1 _ (ev_ret ?_)); clear h1
    exact retT [4] (hv := by rw [okR, hM, Bool.true_and]; exact congrArg (fun b => vb b) (by rw [ht, Bool.true_and]))
  have hlt : i < ws.length := by have := of_decide_eq_true hd; omega
  repeat refine dr_act wG mb ma mc mT mR ?_
  repeat refine dr_act wN mb ma mc mT mR ?_
  refine dr_nil (h3 _ ?_); clear h3
  cases he : decide ((i : Int) ≤ 12)
  · have hgt := of_decide_eq_false he
    refine ev_cond false mlq (fun h => by cases h) (fun h => ev_exit ?_)
    simp only [seqK, loopK, blkK, ↓reduceIte]
    refine h1 _ ?_; clear h1 h2
    refine ev_seq fun K1 h1 => ev_rf mB ?_
    repeat refine dr_act wN mb ma mc mT mR ?_
    refine dr_callF wN mr mb mx mr (c164 m (by omega)) (Nat.le_of_ble_eq_true rfl) mv mT mN ?_
    repeat refine dr_act wN mb ma mc mT mR ?_
    cases hM : okM m
    · iterate 4 refine dr_skip wG mT ?_
      repeat refine dr_act wN mb ma mc mT mR ?_
      refine dr_nil (h1 _ (ev_ret ?_)); clear h1
      exact retT [4] (hv := by rw [okR, hM]; rfl)
    repeat refine dr_act wG mb ma mc mT mR ?_
    repeat refine dr_act wN mb ma mc mT mR ?_
    refine dr_nil (h1 _ (ev_ret ?_)); clear h1
    exact retT [4] (hv := by rw [okR, hM, Bool.true_and]; exact congrArg (fun b => vb b) (by rw [decide_eq_false (by omega : ¬ (ws.length : Int) ≤ 12), Bool.and_false]))
  refine ev_cond true mlq (fun h => ev_skip (h2 _ ?_)) (fun h => by cases h)
  clear h1 h2
  refine ev_seq fun K2 h2 => ev_block ?_
  refine ev_seq fun K3 h3 => ev_reg mB ?_
  repeat refine dr_act wN mb ma mc mT mR ?_
  refine dr_ix (wz : Win) wN mr mb ml ml mS (by omega) mT ?_
  repeat refine dr_act wN mb ma mc mT mR ?_
  refine dr_callF wN mr mb mx mr (c144 m (ws.getD i wz) hl1 hl2) (Nat.le_of_ble_eq_true rfl) mv mT mN ?_
  repeat refine dr_act wN mb ma mc mT mR ?_
  refine dr_nil ⟨fun _ => by kernel_rfl, h3 _ ?_⟩; clear h3
  cases hR : okW m (ws.getD i wz)
  · refine ev_cond true mlq (fun h => ?_) (fun h => by cases h)
    refine ev_seq fun K3 h3 => ev_rf mB ?_
    repeat refine dr_act wN mb ma mc mT mR ?_
    refine dr_nil (h3 _ (ev_ret ?_)); clear h3 h2
    have e : ws.all (okW m) = false := Bool.eq_false_iff.2 fun e => by
      have := List.all_eq_true.1 e _ (mem_w hlt)
      rw [hR] at this; cases this
    exact retT [4] (hv := by rw [okR, e, Bool.and_false]; rfl)
  · refine ev_cond false mlq (fun h => by cases h) (fun h => ev_skip (h2 _ ?_)); clear h2
    refine ev_rf mB ?_
    repeat refine dr_act wN mb ma mc mT mR ?_
    refine dr_nil ⟨⟨i + 1, hlt, by rw [take_w hlt, List.all_append, ht]; simp only [List.all_cons, List.all_nil, Bool.and_true, Bool.true_and]; exact hR⟩, by simp only []; omega, ?_⟩
    rw [w64p (n := ws.length) hlt (by omega)]
    exact weak_ren [] mK mK mD mQ

/-- The bytes of a rope's text. -/
def lenR : List Win → Int
  | [] => 0
  | w :: ws => w.n + lenR ws
theorem lenR_app : ∀ (a b : List Win), lenR (a ++ b) = lenR a + lenR b
  | [], b => by simp [lenR]
  | x :: a, b => by simp only [List.cons_append, lenR, lenR_app a b]; omega
theorem lenR_le : ∀ (ws : List Win), (∀ w, w ∈ ws → 0 ≤ w.n ∧ w.n ≤ 64) → 0 ≤ lenR ws ∧ lenR ws ≤ 64 * (ws.length : Int)
  | [], _ => by simp [lenR]
  | x :: a, h => by
    have h1 := h x (by simp)
    have h2 := lenR_le a fun w hw => h w (by simp [hw])
    simp only [lenR, List.length_cons]; omega

theorem c134 (ws : List Win) (hw : ws.length ≤ 1048576) (hb : ∀ w, w ∈ ws → 0 ≤ w.n ∧ w.n ≤ 64) : Good Try.prog 134 [eR ws] (vi (lenR ws)) [] := by
  refine good_of (E := En 21) (fn := Try.f134) (by kernel_rfl) (by kernel_rfl) rfl rfl (by simp only [List.length_cons, List.length_nil]; decide) (fun C0 => ?_)
  simp only [argT, eR, eWS]
  iterate 2
    refine ev_seq fun K1 h1 => ev_rf mB ?_
    repeat refine dr_act wN mb ma mc mT mR ?_
    refine dr_nil (h1 _ ?_); clear h1 K1
  refine ev_seq fun K1 h1 => ?_
  refine ev_seq fun K2 h2 => ev_rf mB ?_
  repeat refine dr_act wN mb ma mc mT mR ?_
  refine dr_nil (h2 _ ?_); clear h2 K2
  refine ev_block (ev_loop (α := {i : Nat // i ≤ ws.length}) (fun i => ⟨[(1, .ptr (0, none) 0 0), (3, vi (lenR (ws.take i.1))), (4, vi i.1)], [(0, ⟨98, 1, [[.list 4 (ws.map cW)]]⟩)], 32⟩) (fun i => ws.length - i.1) ⟨0, Nat.zero_le _⟩ (weak_ren [] mK mK mD mQ) (fun ⟨i, hi⟩ => ?_))
  refine ev_seq fun K2 h2 => ev_seq fun K3 h3 => ev_rf mB ?_
  repeat refine dr_act wN mb ma mc mT mR ?_
  refine dr_nil (h3 _ ?_); clear h3
  refine ev_cond _ ml (fun h => ev_skip (h2 _ ?_)) (fun h => ev_exit ?_)
  · clear h1 h2
    have hlt : i < ws.length := by have := of_decide_eq_true h; omega
    have h1 := lenR_le (ws.take i) fun w hw => hb w (List.mem_of_mem_take hw)
    rw [List.length_take] at h1
    have h2 := hb _ (mem_w hlt)
    have e1 : IntKind.i64.wrap (lenR (ws.take i) + (ws.getD i wz).n) = lenR (ws.take (i + 1)) := by
      rw [take_w hlt, lenR_app, wrap_of (by omega) (by omega)]; simp only [lenR]; omega
    refine ev_seq fun K2 h2 => ev_block (ev_rf mB ?_)
    repeat refine dr_act wN mb ma mc mT mR ?_
    refine dr_ix (wz : Win) wN mr mb ml ml mS (by omega) mT ?_
    repeat refine dr_act wN mb ma mc mT mR ?_
    rw [Int.toNat_natCast, e1]
    refine dr_nil (h2 _ (ev_rf mB ?_)); clear h2
    repeat refine dr_act wN mb ma mc mT mR ?_
    refine dr_nil ⟨⟨i + 1, by omega⟩, by simp only []; omega, ?_⟩
    rw [w64p (n := ws.length) (by omega) (by omega)]
    exact weak_ren [] mK mK mD mQ
  · simp only [seqK, loopK, blkK, ↓reduceIte]
    refine h1 _ ?_; clear h1 h2
    have hge := of_decide_eq_false h
    obtain rfl : i = ws.length := by omega
    refine ev_seq fun K1 h1 => ev_rf mB ?_
    repeat refine dr_act wN mb ma mc mT mR ?_
    refine dr_nil (h1 _ (ev_ret ?_)); clear h1
    exact retT [2] (hv := by rw [List.take_length]; rfl)

theorem okR_n {m : List (List Int)} {ws : List Win} (h : okR m ws = true) : ∀ w, w ∈ ws → 0 ≤ w.n ∧ w.n ≤ 64 := by
  simp only [okR, Bool.and_eq_true] at h
  intro w hw
  have k := okW_GW (List.all_eq_true.1 h.1.2 w hw)
  have := k.c64
  have := k.n1
  exact ⟨k.n0, by omega⟩

def cutR (m : List (List Int)) (ws : List Win) (i : Int) : Bool := okR m ws && decide (0 ≤ i ∧ i ≤ lenR ws)

theorem c115 (m : List (List Int)) (ws : List Win) (i : Int) (hl1 : m.length ≤ 1048576) (hl2 : ∀ r, r ∈ m → r.length ≤ 1048576) (hw : ws.length ≤ 1048576) : Good Try.prog 115 [eMem m, eR ws, vi i] (vb (cutR m ws i)) [] := by
  refine good_of (E := En 16) (fn := Try.f115) (by kernel_rfl) (by kernel_rfl) rfl rfl (by simp only [List.length_cons, List.length_nil]; decide) (fun C0 => ?_)
  simp only [argT, Nat.reduceAdd]
  refine ev_seq fun K1 h1 => ev_rf mB ?_
  repeat refine dr_act wN mb ma mc mT mR ?_
  refine dr_nil (h1 _ ?_); clear h1 K1
  refine ev_seq fun K1 h1 => ev_rf mB ?_
  repeat refine dr_act wN mb ma mc mT mR ?_
  refine dr_callF wN mr mb mx mr (c132 m ws hl1 hl2 hw) (Nat.le_of_ble_eq_true rfl) mv mT mN ?_
  repeat refine dr_act wN mb ma mc mT mR ?_
  cases hR : okR m ws
  · iterate 4 refine dr_skip wG mT ?_
    repeat refine dr_act wN mb ma mc mT mR ?_
    refine dr_nil (h1 _ (ev_ret ?_)); clear h1
    exact retT [6] (hv := by rw [cutR, hR]; rfl)
  repeat refine dr_act wG mb ma mc mT mR ?_
  refine dr_callF wG mr mb mx mr (c134 ws hw (okR_n hR)) (Nat.le_of_ble_eq_true rfl) mv mT mN ?_
  refine dr_callF wG mr mb mx mr (c133 i 0 (lenR ws)) (Nat.le_of_ble_eq_true rfl) mv mT mN ?_
  repeat refine dr_act wN mb ma mc mT mR ?_
  refine dr_nil (h1 _ (ev_ret ?_)); clear h1
  exact retT [6] (hv := by rw [cutR, hR]; rfl)

abbrev zR : V := .agg [.val (.slice none 0 0)]

theorem c118a (ws : List Win) (hw : ws.length ≤ 12) : GoodR Try.prog 118 [oR 0 ws] [rWS ws] (.tup [oR 0 ws, vb true]) [some (rWS ws)] := by
  refine goodR_of (E := En 10 1) (fn := Try.f118) (by kernel_rfl) (by kernel_rfl) rfl rfl (by simp only [List.length_cons, List.length_nil]; decide) ⟨rfl, Nat.le_refl 1⟩ rfl ⟨okMap (fun _ => rfl) _, trivial⟩ (fun C0 => ?_)
  simp only [argT, rsT, Nat.reduceAdd, List.length_cons, List.length_nil]
  refine ev_seq fun K1 h1 => ev_rf mB ?_
  repeat refine dr_act wN mb ma mc mT mR ?_
  refine dr_nil (h1 _ ?_); clear h1 K1
  refine ev_seq fun K1 h1 => ?_
  refine ev_seq fun K2 h2 => ev_rf mB ?_
  repeat refine dr_act wN mb ma mc mT mR ?_
  refine dr_nil (h2 _ ?_); clear h2
  refine ev_cond _ ml (fun h => absurd (of_decide_eq_true h) (by omega)) (fun h => ev_skip (h1 _ ?_)); clear h1
  refine ev_seq fun K1 h1 => ev_rf mB ?_
  repeat refine dr_act wN mb ma mc mT mR ?_
  refine dr_nil (h1 _ (ev_ret ?_)); clear h1
  exact retLR [] (res' := [.cell 2 98, .tmp 3]) mr (.cell nT mZ ma mc mP (.tmp nT mL .nil)) rfl (by decide) rfl ⟨⟨_, rfl, rfl, rfl, rnMap (g := cW) (fun _ => rfl) _⟩, trivial⟩

theorem c118b (ws : List Win) (hw : 12 < ws.length) : GoodR Try.prog 118 [oR 0 ws] [rWS ws] (.tup [zR, vb false]) [some (rWS ws)] := by
  refine goodR_of (E := En 10 1) (fn := Try.f118) (by kernel_rfl) (by kernel_rfl) rfl rfl (by simp only [List.length_cons, List.length_nil]; decide) ⟨rfl, Nat.le_refl 1⟩ rfl ⟨okMap (fun _ => rfl) _, trivial⟩ (fun C0 => ?_)
  simp only [argT, rsT, Nat.reduceAdd, List.length_cons, List.length_nil]
  refine ev_seq fun K1 h1 => ev_rf mB ?_
  repeat refine dr_act wN mb ma mc mT mR ?_
  refine dr_nil (h1 _ ?_); clear h1 K1
  refine ev_seq fun K1 h1 => ?_
  refine ev_seq fun K2 h2 => ev_rf mB ?_
  repeat refine dr_act wN mb ma mc mT mR ?_
  refine dr_nil (h2 _ ?_); clear h2
  refine ev_cond _ ml (fun h => ?_) (fun h => absurd (of_decide_eq_false h) (by omega)); clear h1
  refine ev_seq fun K1 h1 => ev_rf mB ?_
  repeat refine dr_act wN mb ma mc mT mR ?_
  refine dr_nil (h1 _ (ev_ret ?_)); clear h1
  exact retLR [] (res' := [.cell 2 98, .tmp 3]) mr (.cell nT mZ ma mc mP (.tmp nT mL .nil)) rfl (by decide) rfl ⟨⟨_, rfl, rfl, rfl, rnMap (g := cW) (fun _ => rfl) _⟩, trivial⟩

theorem c119 (a b : List Win) (ha : a.length ≤ 1048576) (hb : b.length ≤ 1048576) : Good Try.prog 119 [eR a, eR b] (oR 0 (a ++ b)) [rWS (a ++ b)] := by
  refine good_of (E := En 13) (fn := Try.f119) (by kernel_rfl) (by kernel_rfl) rfl rfl (by simp only [List.length_cons, List.length_nil]; decide) (fun C0 => ?_)
  simp only [argT, eR, eWS]
  refine ev_seq fun K1 h1 => ev_rf mB ?_
  repeat refine dr_act wN mb ma mc mT mR ?_
  refine dr_nil (h1 _ ?_); clear h1 K1
  refine ev_seq fun K1 h1 => ev_reg mB ?_
  repeat refine dr_act wN mb ma mc mT mR ?_
  refine dr_act wN mb ma (by exact ⟨by simp only [maxLen]; omega, by omega⟩) mT mR ?_
  repeat refine dr_act wN mb ma mc mT mR ?_
  refine dr_act wN mb ma (by exact ⟨by simp only [maxLen]; omega, by omega⟩) mT mR ?_
  repeat refine dr_act wN mb ma mc mT mR ?_
  refine dr_nil ⟨fun _ => by kernel_rfl, h1 _ (ev_ret ?_)⟩
  refine retC [72] (hv := ?_) (hR := ⟨⟨?_, okRW⟩, trivial⟩)
  · simp only [oR, List.length_append]; rfl
  · show some (Root.mk 32 4 (a.map cW ++ b.map cW)) = _
    rw [← List.map_append]
end Go.Ev
namespace Go.Ev
open Go Go.RowKit
variable {E : Env} {C0 : Cx} {K : Exit → St → Prop} {σ : St}

/-- Two texts in a row, with a state between them that is told. -/
theorem ev_cut {x y : Code} (σ' : St) (h : Ev E C0 x (seqK (fun s => Weak E C0 s σ') K) σ) (hy : Ev E C0 y K σ') : Ev E C0 (.seq x y) K σ := by
  intro a w hi
  refine wp_seq (wp_mono (h a w hi) ?_)
  rintro e a' w' ⟨s, hk, hi'⟩
  cases e with
  | normal => exact hy a' w' (hk a' w' hi')
  | _ => exact ⟨s, hk, hi'⟩
end Go.Ev
namespace Go.Ev
open Go Go.RowKit Go.Proofs

/-- A part of a split's step: what goes to the first rope, what to the second. -/
def toF (L i d : Int) (w : Win) : List Win := if d + w.n ≤ i ∧ (w.n > 0 ∨ d < i ∨ i = L) then [w] else if d ≥ i then [] else [⟨w.a, w.s, i - d, i - d⟩]
def toS (L i d : Int) (w : Win) : List Win := if d + w.n ≤ i ∧ (w.n > 0 ∨ d < i ∨ i = L) then [] else if d ≥ i then [w] else [⟨w.a, w.s + (i - d), w.n - (i - d), w.c - (i - d)⟩]

def splF (L i : Int) : List Win → Int → List Win
  | [], _ => []
  | w :: ws, d => toF L i d w ++ splF L i ws (d + w.n)
def splS (L i : Int) : List Win → Int → List Win
  | [], _ => []
  | w :: ws, d => toS L i d w ++ splS L i ws (d + w.n)

theorem splF_len (L i : Int) : ∀ (ws : List Win) (d : Int), (splF L i ws d).length ≤ ws.length
  | [], d => Nat.le_refl _
  | w :: ws, d => by
    have h := splF_len L i ws (d + w.n)
    have : (toF L i d w).length ≤ 1 := by unfold toF; split <;> (try split) <;> simp
    simp only [splF, List.length_append, List.length_cons]; omega
theorem splS_len (L i : Int) : ∀ (ws : List Win) (d : Int), (splS L i ws d).length ≤ ws.length
  | [], d => Nat.le_refl _
  | w :: ws, d => by
    have h := splS_len L i ws (d + w.n)
    have : (toS L i d w).length ≤ 1 := by unfold toS; split <;> (try split) <;> simp
    simp only [splS, List.length_append, List.length_cons]; omega
theorem splF_app (L i : Int) (w : Win) : ∀ (ws : List Win) (d : Int), splF L i (ws ++ [w]) d = splF L i ws d ++ toF L i (d + lenR ws) w
  | [], d => by simp [splF, lenR]
  | x :: ws, d => by simp only [List.cons_append, splF, splF_app L i w ws, lenR, List.append_assoc, Int.add_assoc]
theorem splS_app (L i : Int) (w : Win) : ∀ (ws : List Win) (d : Int), splS L i (ws ++ [w]) d = splS L i ws d ++ toS L i (d + lenR ws) w
  | [], d => by simp [splS, lenR]
  | x :: ws, d => by simp only [List.cons_append, splS, splS_app L i w ws, lenR, List.append_assoc, Int.add_assoc]

/-- A rope that may be split. -/
structure SplOK (ws : List Win) (i : Int) : Prop where
  l : ws.length ≤ 12
  n : ∀ w, w ∈ ws → 0 ≤ w.n ∧ w.n ≤ 64 ∧ 0 ≤ w.s ∧ w.s ≤ 64 ∧ 0 ≤ w.c ∧ w.c ≤ 64
  i : 0 ≤ i ∧ i ≤ lenR ws
theorem SplOK.b {ws : List Win} {i : Int} (h : SplOK ws i) : ∀ w, w ∈ ws → 0 ≤ w.n ∧ w.n ≤ 64 := fun w hw => ⟨(h.n w hw).1, (h.n w hw).2.1⟩

theorem cutR_ok {m : List (List Int)} {ws : List Win} {i : Int} (h : cutR m ws i = true) : SplOK ws i := by
  simp only [cutR, okR, Bool.and_eq_true, decide_eq_true_eq] at h
  refine ⟨by omega, fun w hw => ?_, h.2⟩
  have k := okW_GW (List.all_eq_true.1 h.1.1.2 w hw)
  have h1 := k.c64
  have h2 := k.n1
  have h3 := k.c1
  have h4 := k.row
  have h5 := k.s0
  have h6 := k.n0
  omega

theorem splF_step {L i : Int} {ws : List Win} {k : Nat} (h : k < ws.length) : splF L i (ws.take (k + 1)) 0 = splF L i (ws.take k) 0 ++ toF L i (lenR (ws.take k)) (ws.getD k wz) := by
  rw [take_w h, splF_app, Int.zero_add]
theorem splS_step {L i : Int} {ws : List Win} {k : Nat} (h : k < ws.length) : splS L i (ws.take (k + 1)) 0 = splS L i (ws.take k) 0 ++ toS L i (lenR (ws.take k)) (ws.getD k wz) := by
  rw [take_w h, splS_app, Int.zero_add]
theorem lenR_step {ws : List Win} {k : Nat} (h : k < ws.length) : lenR (ws.take (k + 1)) = lenR (ws.take k) + (ws.getD k wz).n := by
  rw [take_w h, lenR_app]; simp only [lenR]; omega
theorem mapW (f : List Win) (w : Win) : f.map cW ++ [cW w] = (f ++ [w]).map cW := by rw [List.map_append]; rfl

theorem c117 (ws : List Win) (i : Int) (h : SplOK ws i) : Good Try.prog 117 [eR ws, vi i] (.tup [oR 0 (splF (lenR ws) i ws 0), oR 1 (splS (lenR ws) i ws 0)]) [rWS (splF (lenR ws) i ws 0), rWS (splS (lenR ws) i ws 0)] := by
  refine good_of (E := En 99) (fn := Try.f117) (by kernel_rfl) (by kernel_rfl) rfl rfl (by simp only [List.length_cons, List.length_nil]; decide) (fun C0 => ?_)
  have hl := h.l
  have hi0 := h.i.1
  have hi1 := h.i.2
  have hL := lenR_le ws h.b
  simp only [argT, eR, eWS]
  refine ev_seq fun K1 h1 => ev_rf mB ?_
  repeat refine dr_act wN mb ma mc mT mR ?_
  refine dr_nil (h1 _ ?_); clear h1 K1
  refine ev_seq fun K1 h1 => ev_rf mB ?_
  repeat refine dr_act wN mb ma mc mT mR ?_
  refine dr_nil (h1 _ ?_); clear h1 K1
  refine ev_seq fun K1 h1 => ev_rf mB ?_
  repeat refine dr_act wN mb ma mc mT mR ?_
  refine dr_nil (h1 _ ?_); clear h1 K1
  refine ev_seq fun K1 h1 => ?_
  refine ev_seq fun K2 h2 => ev_rf mB ?_
  repeat refine dr_act wN mb ma mc mT mR ?_
  refine dr_nil (h2 _ ?_); clear h2 K2
  refine ev_block (ev_loop (α := {k : Nat // k ≤ ws.length}) (fun k => ⟨[(1, vi i), (2, .ptr (0, none) 0 0), (4, .ptr (8, none) 0 0), (5, .ptr (16, none) 0 0), (6, .ptr (56, none) 0 0), (7, .ptr (64, none) 0 0), (8, vi (lenR (ws.take k.1))), (9, vi k.1)], [(0, ⟨98, 1, [[.list 4 (ws.map cW)]]⟩), (8, ⟨98, 1, [[.val (.slice none 0 0)]]⟩), (16, ⟨98, 1, [[.val (.slice none 0 0)]]⟩), (56, ⟨98, 1, [[.ref (24, none) 0 (splF (lenR ws) i (ws.take k.1) 0).length]]⟩), (64, ⟨98, 1, [[.ref (40, none) 0 (splS (lenR ws) i (ws.take k.1) 0).length]]⟩), (24, rWS (splF (lenR ws) i (ws.take k.1) 0)), (40, rWS (splS (lenR ws) i (ws.take k.1) 0))], 104⟩) (fun k => ws.length - k.1) ⟨0, Nat.zero_le _⟩ (weak_ren [] mK (chkR_cons mK (chkR_cons mK (chkR_cons mK (chkR_cons mK (chkR_cons mK (chkRm rfl (by decide) rfl (fun _ => rfl) (fun _ => rfl) (chkRm rfl (by decide) rfl (fun _ => rfl) (fun _ => rfl) trivial))))))) mD mQ) (fun ⟨k, hk⟩ => ?_))
  refine ev_seq fun K2 h2 => ev_seq fun K3 h3 => ev_rf mB ?_
  repeat refine dr_act wN mb ma mc mT mR ?_
  refine dr_nil (h3 _ ?_); clear h3
  refine ev_cond _ ml (fun hc => ev_skip (h2 _ ?_)) (fun hc => ev_exit ?_)
  · clear h1 h2
    have hlt : k < ws.length := by have := of_decide_eq_true hc; omega
    have hf1 := splF_len (lenR ws) i (ws.take k) 0
    have hs1 := splS_len (lenR ws) i (ws.take k) 0
    have hd := lenR_le (ws.take k) fun w hw => h.b w (List.mem_of_mem_take hw)
    rw [List.length_take] at hf1 hs1 hd
    have hsf := splF_step (L := lenR ws) (i := i) hlt
    have hss := splS_step (L := lenR ws) (i := i) hlt
    have hld := lenR_step hlt
    have hw := h.n _ (mem_w hlt)
    have c134' := c134 ws (by omega) h.b
    generalize hfe : splF (lenR ws) i (ws.take k) 0 = f at *
    generalize hse : splS (lenR ws) i (ws.take k) 0 = s at *
    generalize hde : lenR (ws.take k) = d at *
    have w1 : IntKind.i64.wrap (d + (ws.getD k wz).n) = d + (ws.getD k wz).n := wrap_of (by omega) (by omega)
    generalize hwe : ws.getD k wz = w at *
    refine ev_seq fun K2 h2 => ev_block ?_
    refine ev_seq fun K3 h3 => ev_rf mB ?_
    repeat refine dr_act wN mb ma mc mT mR ?_
    refine dr_ix (wz : Win) wN mr mb ml ml mS (by omega) mT ?_
    rw [Int.toNat_natCast, hwe]
    repeat refine dr_act wN mb ma mc mT mR ?_
    refine dr_nil (h3 _ ?_); clear h3
    refine ev_cut ⟨[(1, vi i), (2, .ptr (0, none) 0 0), (4, .ptr (8, none) 0 0), (5, .ptr (16, none) 0 0), (6, .ptr (56, none) 0 0), (7, .ptr (64, none) 0 0), (8, vi d), (9, vi k), (10, .ptr (184, none) 0 0)], [(0, ⟨98, 1, [[.list 4 (ws.map cW)]]⟩), (8, ⟨98, 1, [[.val (.slice none 0 0)]]⟩), (16, ⟨98, 1, [[.val (.slice none 0 0)]]⟩), (184, ⟨32, 4, [cW w]⟩), (56, ⟨98, 1, [[.ref (24, none) 0 (f ++ toF (lenR ws) i d w).length]]⟩), (64, ⟨98, 1, [[.ref (40, none) 0 (s ++ toS (lenR ws) i d w).length]]⟩), (24, rWS (f ++ toF (lenR ws) i d w)), (40, rWS (s ++ toS (lenR ws) i d w))], 3000⟩ (ev_block ?_) ?_
    · refine ev_cut ⟨[(1, vi i), (2, .ptr (0, none) 0 0), (4, .ptr (8, none) 0 0), (5, .ptr (16, none) 0 0), (6, .ptr (56, none) 0 0), (7, .ptr (64, none) 0 0), (8, vi d), (9, vi k), (10, .ptr (184, none) 0 0), (54, vb (decide (d + w.n ≤ i ∧ (w.n > 0 ∨ d < i ∨ i = lenR ws))))], [(0, ⟨98, 1, [[.list 4 (ws.map cW)]]⟩), (8, ⟨98, 1, [[.val (.slice none 0 0)]]⟩), (16, ⟨98, 1, [[.val (.slice none 0 0)]]⟩), (184, ⟨32, 4, [cW w]⟩), (56, ⟨98, 1, [[.ref (24, none) 0 f.length]]⟩), (64, ⟨98, 1, [[.ref (40, none) 0 s.length]]⟩), (24, rWS f), (40, rWS s)], 1000⟩ (ev_rf mB ?_) ?_
      · repeat refine dr_act wN mb ma mc mT mR ?_
        rw [w1]
        repeat refine dr_act wN mb ma mc mT mR ?_
        cases hA : decide (d + w.n ≤ i)
        · iterate 4 refine dr_skip wG mT ?_
          iterate 3 refine dr_skip wU mT ?_
          iterate 2 refine dr_skip wG mT ?_
          iterate 4 refine dr_skip wU mT ?_
          refine dr_skip wG mT ?_
          repeat refine dr_act wN mb ma mc mT mR ?_
          rw [decide_eq_false fun h => of_decide_eq_false hA h.1]
          exact dr_nil (weak_ren [] mK (chkR_cons mK (chkR_cons mK (chkR_cons mK (chkR_cons mK (chkR_cons mK (chkR_cons mK (chkRm rfl (by decide) rfl (fun _ => rfl) (fun _ => rfl) (chkRm rfl (by decide) rfl (fun _ => rfl) (fun _ => rfl) trivial)))))))) mD mQ)
        have hA' := of_decide_eq_true hA
        iterate 4 refine dr_act wG mb ma mc mT mR ?_
        cases hB : decide (w.n > 0)
        rotate_left
        · have hB' := of_decide_eq_true hB
          iterate 3 refine dr_skip wG mT ?_
          iterate 2 refine dr_act wG mb ma mc mT mR ?_
          iterate 4 refine dr_skip wG mT ?_
          refine dr_act wG mb ma mc mT mR ?_
          repeat refine dr_act wN mb ma mc mT mR ?_
          rw [decide_eq_true ⟨hA', .inl hB'⟩]
          exact dr_nil (weak_ren [] mK (chkR_cons mK (chkR_cons mK (chkR_cons mK (chkR_cons mK (chkR_cons mK (chkR_cons mK (chkRm rfl (by decide) rfl (fun _ => rfl) (fun _ => rfl) (chkRm rfl (by decide) rfl (fun _ => rfl) (fun _ => rfl) trivial)))))))) mD mQ)
        have hB' := of_decide_eq_false hB
        iterate 3 refine dr_act wG mb ma mc mT mR ?_
        cases hC : decide (d < i)
        rotate_left
        · have hC' := of_decide_eq_true hC
          iterate 2 refine dr_act wG mb ma mc mT mR ?_
          iterate 4 refine dr_skip wG mT ?_
          refine dr_act wG mb ma mc mT mR ?_
          repeat refine dr_act wN mb ma mc mT mR ?_
          rw [decide_eq_true ⟨hA', .inr (.inl hC')⟩]
          exact dr_nil (weak_ren [] mK (chkR_cons mK (chkR_cons mK (chkR_cons mK (chkR_cons mK (chkR_cons mK (chkR_cons mK (chkRm rfl (by decide) rfl (fun _ => rfl) (fun _ => rfl) (chkRm rfl (by decide) rfl (fun _ => rfl) (fun _ => rfl) trivial)))))))) mD mQ)
        have hC' := of_decide_eq_false hC
        iterate 4 refine dr_act wG mb ma mc mT mR ?_
        refine dr_callF wG mr mb mx mr c134' (Nat.le_of_ble_eq_true rfl) mv mT mN ?_
        iterate 2 refine dr_act wG mb ma mc mT mR ?_
        repeat refine dr_act wN mb ma mc mT mR ?_
        have e : (i == lenR ws) = decide (d + w.n ≤ i ∧ (w.n > 0 ∨ d < i ∨ i = lenR ws)) := by
          rw [Bool.eq_iff_iff, beq_iff_eq, decide_eq_true_eq]
          exact ⟨fun h => ⟨hA', .inr (.inr h)⟩, fun h => h.2.elim (fun h => absurd h hB') fun h => h.elim (fun h => absurd h hC') id⟩
        rw [e]
        exact dr_nil (weak_ren [] mK (chkR_cons mK (chkR_cons mK (chkR_cons mK (chkR_cons mK (chkR_cons mK (chkR_cons mK (chkRm rfl (by decide) rfl (fun _ => rfl) (fun _ => rfl) (chkRm rfl (by decide) rfl (fun _ => rfl) (fun _ => rfl) trivial)))))))) mD mQ)
      · refine ev_cond _ ml (fun hX => ?_) (fun hX => ?_)
        · have hX' := of_decide_eq_true hX
          refine ev_rf mB ?_
          repeat refine dr_act wN mb ma mc mT mR ?_
          refine dr_act wN mb ma (by exact ⟨⟨by simp only [maxLen]; omega, by omega⟩, rfl⟩) mT mR ?_
          repeat refine dr_act wN mb ma mc mT mR ?_
          have eF : toF (lenR ws) i d w = [w] := by rw [toF, if_pos hX']
          have eS : toS (lenR ws) i d w = [] := by rw [toS, if_pos hX']
          refine dr_nil (show Weak (En 99) C0 _ _ from ?_)
          rw [eF, eS, List.append_nil, List.length_append]
          exact weak_ren [(24, 1032)] mK (chkR_cons mK (chkR_cons mK (chkR_cons mK (chkR_cons mK (chkR_cons mK (chkR_cons mK (chkRm rfl (by decide) (mapW f w) (fun _ => rfl) (fun _ => rfl) (chkRm rfl (by decide) rfl (fun _ => rfl) (fun _ => rfl) trivial)))))))) mD mQ
        · have hX' := of_decide_eq_false hX
          refine ev_seq fun K4 h4 => ev_rf mB ?_
          repeat refine dr_act wN mb ma mc mT mR ?_
          refine dr_nil (h4 _ ?_); clear h4
          refine ev_cond _ ml (fun hY => ?_) (fun hY => ?_)
          · have hY' := of_decide_eq_true hY
            refine ev_rf mB ?_
            repeat refine dr_act wN mb ma mc mT mR ?_
            refine dr_act wN mb ma (by exact ⟨⟨by simp only [maxLen]; omega, by omega⟩, rfl⟩) mT mR ?_
            repeat refine dr_act wN mb ma mc mT mR ?_
            have eF : toF (lenR ws) i d w = [] := by rw [toF, if_neg hX', if_pos hY']
            have eS : toS (lenR ws) i d w = [w] := by rw [toS, if_neg hX', if_pos hY']
            refine dr_nil (show Weak (En 99) C0 _ _ from ?_)
            rw [eF, eS, List.append_nil, List.length_append]
            exact weak_ren [(40, 1064)] mK (chkR_cons mK (chkR_cons mK (chkR_cons mK (chkR_cons mK (chkR_cons mK (chkR_cons mK (chkRm rfl (by decide) rfl (fun _ => rfl) (fun _ => rfl) (chkRm rfl (by decide) (mapW s w) (fun _ => rfl) (fun _ => rfl) trivial)))))))) mD mQ
          · have hY' := of_decide_eq_false hY
            have hn : i - d < w.n := Int.not_le.1 fun hh => hX' ⟨by omega, .inr (.inl (by omega))⟩
            have v1 : IntKind.i64.wrap (i - d) = i - d := wrap_of (by omega) (by omega)
            have v2 : w64 (w.s + 0) = w.s := (wrap_of (by omega) (by omega)).trans (by omega)
            have v3 : w64 (i - d - 0) = i - d := (wrap_of (by omega) (by omega)).trans (by omega)
            have v4 : w64 (w.s + (i - d)) = w.s + (i - d) := wrap_of (by omega) (by omega)
            have v5 : w64 (w.n - (i - d)) = w.n - (i - d) := wrap_of (by omega) (by omega)
            have v6 : w64 (w.c - (i - d)) = w.c - (i - d) := wrap_of (by omega) (by omega)
            have k1 := c101 w 0 (i - d) (i - d)
            rw [v2, v3] at k1
            have k2 := c101 w (i - d) w.n w.c
            rw [v4, v5, v6] at k2
            refine ev_seq fun K4 h4 => ev_reg mB ?_
            repeat refine dr_act wN mb ma mc mT mR ?_
            rw [v1]
            refine dr_callF wN mr mb mx mr k1 (Nat.le_of_ble_eq_true rfl) mv mT mN ?_
            repeat refine dr_act wN mb ma mc mT mR ?_
            refine dr_act wN mb ma (by exact ⟨⟨by simp only [maxLen]; omega, by omega⟩, rfl⟩) mT mR ?_
            repeat refine dr_act wN mb ma mc mT mR ?_
            refine dr_nil ⟨fun _ => by kernel_rfl, h4 _ ?_⟩; clear h4
            refine ev_reg mB ?_
            repeat refine dr_act wN mb ma mc mT mR ?_
            rw [v1]
            refine dr_callF wN mr mb mx mr k2 (Nat.le_of_ble_eq_true rfl) mv mT mN ?_
            repeat refine dr_act wN mb ma mc mT mR ?_
            refine dr_act wN mb ma (by exact ⟨⟨by simp only [maxLen]; omega, by omega⟩, rfl⟩) mT mR ?_
            repeat refine dr_act wN mb ma mc mT mR ?_
            have eF : toF (lenR ws) i d w = [⟨w.a, w.s, i - d, i - d⟩] := by rw [toF, if_neg hX', if_neg hY']
            have eS : toS (lenR ws) i d w = [⟨w.a, w.s + (i - d), w.n - (i - d), w.c - (i - d)⟩] := by rw [toS, if_neg hX', if_neg hY']
            refine dr_nil ⟨fun _ => by kernel_rfl, show Weak (En 99) C0 _ _ from ?_⟩
            rw [eF, eS, List.length_append, List.length_append]
            exact weak_ren [(24, 1120), (40, 1240)] mK (chkR_cons mK (chkR_cons mK (chkR_cons mK (chkR_cons mK (chkR_cons mK (chkR_cons mK (chkRm rfl (by decide) (mapW f ⟨w.a, w.s, i - d, i - d⟩) (fun _ => rfl) (fun _ => rfl) (chkRm rfl (by decide) (mapW s ⟨w.a, w.s + (i - d), w.n - (i - d), w.c - (i - d)⟩) (fun _ => rfl) (fun _ => rfl) trivial)))))))) mD mQ
    · refine ev_rf mB ?_
      repeat refine dr_act wN mb ma mc mT mR ?_
      rw [w1]
      refine dr_nil (h2 _ (ev_rf mB ?_)); clear h2
      repeat refine dr_act wN mb ma mc mT mR ?_
      refine dr_nil ⟨⟨k + 1, by omega⟩, by simp only []; omega, ?_⟩
      rw [w64p (n := ws.length) (by omega) (by omega), ← hld, ← hsf, ← hss]
      exact weak_ren [] mK (chkR_cons mK (chkR_cons mK (chkR_cons mK (chkR_cons mK (chkR_cons mK (chkRm rfl (by decide) rfl (fun _ => rfl) (fun _ => rfl) (chkRm rfl (by decide) rfl (fun _ => rfl) (fun _ => rfl) trivial))))))) mD mQ
  · simp only [seqK, loopK, blkK, ↓reduceIte]
    refine h1 _ ?_; clear h1 h2
    have hge := of_decide_eq_false hc
    obtain rfl : k = ws.length := by omega
    simp only [List.take_length]
    refine ev_seq fun K1 h1 => ev_reg mB ?_
    repeat refine dr_act wN mb ma mc mT mR ?_
    refine dr_nil ⟨fun _ => by kernel_rfl, h1 _ (ev_ret ?_)⟩; clear h1
    exact retL [24, 40] (res' := [.cell 4 98, .cell 5 98]) mr (.cell nT mZ ma mc mP (.cell nT mZ ma mc mP .nil)) rfl mr (by decide) ⟨⟨mr, okRW⟩, ⟨mr, okRW⟩, trivial⟩
end Go.Ev
namespace Go.Ev
open Go Go.RowKit Go.Proofs

/-- A memory with a new array of some bytes, and a rope of it. -/
def newM (m : List (List Int)) (xs : List Int) : Option (List (List Int) × List Win) :=
  if xs.length = 0 then some (m, [])
  else if 64 < xs.length ∨ m.length = 16 then none
  else some (m ++ [xs], [⟨m.length, 0, xs.length, xs.length⟩])

abbrev oMR : Option (List (List Int) × List Win) → V
  | some (m, ws) => .tup [oM 0 m, oR 1 ws, vb true]
  | none => .tup [zM, zR, vb false]
abbrev rMR : Option (List (List Int) × List Win) → List Root
  | some (m, ws) => [rM m, rWS ws]
  | none => []

theorem c116 (m : List (List Int)) (xs : List Int) (hl1 : m.length ≤ 1048576) (hl2 : ∀ r, r ∈ m → r.length ≤ 1048576) (hx : xs.length ≤ 1048576) : Good Try.prog 116 [eMem m, eB xs] (oMR (newM m xs)) (rMR (newM m xs)) := by
  refine good_of (E := En 39) (fn := Try.f116) (by kernel_rfl) (by kernel_rfl) rfl rfl (by simp only [List.length_cons, List.length_nil]; decide) (fun C0 => ?_)
  simp only [argT, Nat.reduceAdd, eB]
  refine ev_seq fun K1 h1 => ev_rf mB ?_
  repeat refine dr_act wN mb ma mc mT mR ?_
  refine dr_nil (h1 _ ?_); clear h1 K1
  refine ev_seq fun K1 h1 => ?_
  refine ev_seq fun K2 h2 => ev_rf mB ?_
  repeat refine dr_act wN mb ma mc mT mR ?_
  refine dr_nil (h2 _ ?_); clear h2
  refine ev_cond _ ml (fun h => ?_) (fun h => ev_skip (h1 _ ?_))
  · have h0 : xs.length = 0 := by have : (xs.length : Int) = 0 := by simpa using h
                                  omega
    have e : newM m xs = some (m, []) := by rw [newM, if_pos h0]
    rw [e]
    refine ev_seq fun K2 h2 => ev_rf mB ?_
    repeat refine dr_act wN mb ma mc mT mR ?_
    refine dr_callF wN mr mb mx mr (c150 m hl1 hl2) (Nat.le_of_ble_eq_true rfl) mv mT mN ?_
    repeat refine dr_act wN mb ma mc mT mR ?_
    refine dr_nil (h2 _ (ev_ret ?_)); clear h2 h1
    exact retL [64, 72] (res' := [.cell 4 31, .cell 5 98, .tmp 6]) mr (.cell nT mZ ma mc mP (.cell nT mZ ma mc mP (.tmp nT mL .nil))) rfl mr (by decide) ⟨⟨mr, okRM⟩, ⟨mr, rfl⟩, trivial⟩
  have h0 : ¬ xs.length = 0 := fun e => by
    have : ¬ (xs.length : Int) = 0 := by simpa using h
    omega
  clear h1 h
  refine ev_seq fun K1 h1 => ?_
  refine ev_seq fun K2 h2 => ev_rf mB ?_
  repeat refine dr_act wN mb ma mc mT mR ?_
  cases hd : decide ((xs.length : Int) > 64)
  rotate_left
  · have hgt := of_decide_eq_true hd
    iterate 4 refine dr_skip wG mT ?_
    repeat refine dr_act wN mb ma mc mT mR ?_
    refine dr_nil (h2 _ ?_); clear h2
    have e : newM m xs = none := by rw [newM, if_neg h0, if_pos (.inl (by omega))]
    rw [e] at h1 ⊢
    refine ev_cond true mlq (fun h => ?_) (fun h => by cases h)
    refine ev_seq fun K2 h2 => ev_rf mB ?_
    repeat refine dr_act wN mb ma mc mT mR ?_
    refine dr_nil (h2 _ (ev_ret ?_)); clear h2 h1
    exact retL [] (res' := [.cell 4 31, .cell 5 98, .tmp 6]) mr (.cell nT mZ ma mc mP (.cell nT mZ ma mc mP (.tmp nT mL .nil))) rfl mr (by decide) trivial
  have hle := of_decide_eq_false hd
  repeat refine dr_act wG mb ma mc mT mR ?_
  repeat refine dr_act wN mb ma mc mT mR ?_
  refine dr_nil (h2 _ ?_); clear h2
  refine ev_cond _ ml (fun h => ?_) (fun h => ev_skip (h1 _ ?_))
  · have hm : (m.length : Int) = 16 := of_decide_eq_true h
    have e : newM m xs = none := by rw [newM, if_neg h0, if_pos (.inr (by omega))]
    rw [e]
    refine ev_seq fun K2 h2 => ev_rf mB ?_
    repeat refine dr_act wN mb ma mc mT mR ?_
    refine dr_nil (h2 _ (ev_ret ?_)); clear h2 h1
    exact retL [] (res' := [.cell 4 31, .cell 5 98, .tmp 6]) mr (.cell nT mZ ma mc mP (.cell nT mZ ma mc mP (.tmp nT mL .nil))) rfl mr (by decide) trivial
  have hm : ¬ (m.length : Int) = 16 := of_decide_eq_false h
  have e : newM m xs = some (m ++ [xs], [⟨m.length, 0, xs.length, xs.length⟩]) := by rw [newM, if_neg h0, if_neg (by omega)]
  clear h1
  rw [e]
  refine ev_seq fun K1 h1 => ev_rf mB ?_
  repeat refine dr_act wN mb ma mc mT mR ?_
  refine dr_callF wN mr mb mx mr (c158 m xs (xs.length : Nat) hl1 hl2 hx) (Nat.le_of_ble_eq_true rfl) mv mT mN ?_
  repeat refine dr_act wN mb ma mc mT mR ?_
  refine dr_nil (h1 _ ?_); clear h1
  refine ev_seq fun K1 h1 => ev_reg mB ?_
  repeat refine dr_act wN mb ma mc mT mR ?_
  refine dr_nil ⟨fun _ => by kernel_rfl, h1 _ (ev_ret ?_)⟩; clear h1
  exact retL [160, 240] (res' := [.cell 4 31, .cell 5 98, .tmp 6]) mr (.cell nT mZ ma mc mP (.cell nT mZ ma mc mP (.tmp nT mL .nil))) rfl mr (by decide) ⟨⟨mr, okRM⟩, ⟨mr, rfl⟩, trivial⟩

/-- A rope with new bytes ahead of a byte. -/
def insR (m : List (List Int)) (ws : List Win) (i : Int) (xs : List Int) : Option (List (List Int) × List Win) :=
  if cutR m ws i = true then
    match newM m xs with
    | none => none
    | some (m', own) => if (splF (lenR ws) i ws 0 ++ own ++ splS (lenR ws) i ws 0).length ≤ 12 then some (m', splF (lenR ws) i ws 0 ++ own ++ splS (lenR ws) i ws 0) else none
  else none

theorem newM_own {m m' : List (List Int)} {xs : List Int} {own : List Win} (h : newM m xs = some (m', own)) : own.length ≤ 1 := by
  unfold newM at h
  split at h
  · simp only [Option.some.injEq, Prod.mk.injEq] at h
    rw [← h.2]; simp
  · split at h
    · cases h
    · simp only [Option.some.injEq, Prod.mk.injEq] at h
      rw [← h.2]; simp

theorem c57 (m : List (List Int)) (ws : List Win) (i : Int) (xs : List Int) (hl1 : m.length ≤ 1048576) (hl2 : ∀ r, r ∈ m → r.length ≤ 1048576) (hw : ws.length ≤ 1048576) (hx : xs.length ≤ 1048576) : Good Try.prog 57 [eMem m, eR ws, vi i, eB xs] (oMR (insR m ws i xs)) (rMR (insR m ws i xs)) := by
  refine good_of (E := En 57) (fn := Try.f57) (by kernel_rfl) (by kernel_rfl) rfl rfl (by simp only [List.length_cons, List.length_nil]; decide) (fun C0 => ?_)
  simp only [argT, Nat.reduceAdd]
  refine ev_seq fun K1 h1 => ev_rf mB ?_
  repeat refine dr_act wN mb ma mc mT mR ?_
  refine dr_nil (h1 _ ?_); clear h1 K1
  refine ev_seq fun K1 h1 => ?_
  refine ev_seq fun K2 h2 => ev_rf mB ?_
  repeat refine dr_act wN mb ma mc mT mR ?_
  refine dr_callF wN mr mb mx mr (c115 m ws i hl1 hl2 hw) (Nat.le_of_ble_eq_true rfl) mv mT mN ?_
  cases hC : cutR m ws i
  · have e : insR m ws i xs = none := by rw [insR, if_neg (by rw [hC]; decide)]
    rw [e] at h1 h2 ⊢
    repeat refine dr_act wN mb ma mc mT mR ?_
    refine dr_nil (h2 _ ?_); clear h2
    refine ev_cond true mlq (fun h => ?_) (fun h => by cases h)
    refine ev_seq fun K2 h2 => ev_rf mB ?_
    repeat refine dr_act wN mb ma mc mT mR ?_
    refine dr_nil (h2 _ (ev_ret ?_)); clear h2 h1
    exact retL [] (res' := [.cell 8 31, .cell 9 98, .tmp 10]) mr (.cell nT mZ ma mc mP (.cell nT mZ ma mc mP (.tmp nT mL .nil))) rfl mr (by decide) trivial
  have hsp := cutR_ok hC
  have hl12 := hsp.l
  have hfl := splF_len (lenR ws) i ws 0
  have hsl := splS_len (lenR ws) i ws 0
  have h117 := c117 ws i hsp
  have h116 := c116 m xs hl1 hl2 hx
  have hins : insR m ws i xs = match newM m xs with
    | none => none
    | some (m', own) => if (splF (lenR ws) i ws 0 ++ own ++ splS (lenR ws) i ws 0).length ≤ 12 then some (m', splF (lenR ws) i ws 0 ++ own ++ splS (lenR ws) i ws 0) else none := by rw [insR, if_pos hC]
  generalize splF (lenR ws) i ws 0 = f at *
  generalize splS (lenR ws) i ws 0 = s at *
  repeat refine dr_act wN mb ma mc mT mR ?_
  refine dr_nil (h2 _ ?_); clear h2
  refine ev_cond false mlq (fun h => by cases h) (fun h => ev_skip (h1 _ ?_)); clear h1
  rcases hnw : newM m xs with _ | ⟨m', own⟩
  · rw [hnw] at h116 hins
    simp only [] at hins
    refine ev_seq fun K1 h1 => ev_rf mB ?_
    repeat refine dr_act wN mb ma mc mT mR ?_
    refine dr_callF wN mr mb mx mr h116 (Nat.le_of_ble_eq_true rfl) mv mT mN ?_
    repeat refine dr_act wN mb ma mc mT mR ?_
    refine dr_nil (h1 _ ?_); clear h1
    refine ev_weak (weak_trans (weak_nil 144 0 0 32 4 mr mr mr rfl (Nat.le_of_ble_eq_true rfl : 176 < 180)) (weak_ren (b' := 1000) (T' := [(2, vi i), (5, .ptr (8, none) 0 0), (8, .ptr (16, none) 0 0), (9, .ptr (24, none) 0 0), (11, .ptr (136, none) 0 0), (12, .ptr (144, none) 0 0), (13, vb false)]) (R' := [(8, ⟨98, 1, [[eWS ws]]⟩), (16, ⟨31, 1, [[.val (.slice none 0 0)]]⟩), (24, ⟨98, 1, [[.val (.slice none 0 0)]]⟩), (136, ⟨31, 1, [[.val (.slice none 0 0)]]⟩), (144, ⟨98, 1, [[.ref (97, none) 0 ([] : List Win).length]]⟩), (97, rWS ([] : List Win))]) [(97, 176)] mK (chkR_cons mK (chkR_cons mK (chkR_cons mK (chkR_cons mK (chkR_cons mK (chkRm rfl (by decide) rfl (fun _ => rfl) (fun a => by simp [okC]) trivial)))))) mD mQ)) ?_
    refine ev_seq fun K1 h1 => ev_rf mB ?_
    repeat refine dr_act wN mb ma mc mT mR ?_
    refine dr_callF wN mr mb mx mr h117 (Nat.le_of_ble_eq_true rfl) mv mT mN ?_
    repeat refine dr_act wN mb ma mc mT mR ?_
    refine dr_nil (h1 _ ?_); clear h1
    by_cases h12 : (f ++ ([] : List Win) ++ s).length ≤ 12
    · rw [hins]
      refine ev_seq fun K1 h1 => ev_reg mB ?_
      repeat refine dr_act wN mb ma mc mT mR ?_
      refine dr_call wN mr mb mx (.cons (fR mr) (.cons (fR mr) .nil)) (c119 f ([] : List Win) (by omega) (by (try simp only [List.length_nil]); omega)) (Nat.le_of_ble_eq_true rfl) mv mT mN ?_
      repeat refine dr_act wN mb ma mc mT mR ?_
      refine dr_call wN mr mb mx (.cons (fR mr) (.cons (fR mr) .nil)) (c119 (f ++ ([] : List Win)) s (by rw [List.length_append]; (try simp only [List.length_nil]); omega) (by omega)) (Nat.le_of_ble_eq_true rfl) mv mT mN ?_
      refine dr_callR [1112] [] wN mr mb mx (c118a (f ++ ([] : List Win) ++ s) (by omega)) (.ren rfl rfl .nil) (handW mr) ⟨⟨by decide, nz⟩, Nat.le_of_ble_eq_true rfl⟩ (v := .tup [oR 1112 (f ++ ([] : List Win) ++ s), vb true]) rfl mT (wrW.trans mRd) ?_
      repeat refine dr_act wN mb ma mc mT mR ?_
      refine dr_nil ⟨fun _ => by kernel_rfl, h1 _ ?_⟩; clear h1
      refine ev_seq fun K1 h1 => ?_
      refine ev_seq fun K2 h2 => ev_rf mB ?_
      repeat refine dr_act wN mb ma mc mT mR ?_
      iterate 2 refine dr_skip wG mT ?_
      repeat refine dr_act wN mb ma mc mT mR ?_
      refine dr_nil (h2 _ ?_); clear h2
      refine ev_cond true mlq (fun h => ?_) (fun h => by cases h)
      refine ev_seq fun K2 h2 => ev_rf mB ?_
      repeat refine dr_act wN mb ma mc mT mR ?_
      refine dr_nil (h2 _ (ev_ret ?_)); clear h2 h1
      exact retL [] (res' := [.cell 8 31, .cell 9 98, .tmp 10]) mr (.cell nT mZ ma mc mP (.cell nT mZ ma mc mP (.tmp nT mL .nil))) rfl mr (by decide) trivial
    · rw [hins]
      refine ev_seq fun K1 h1 => ev_reg mB ?_
      repeat refine dr_act wN mb ma mc mT mR ?_
      refine dr_call wN mr mb mx (.cons (fR mr) (.cons (fR mr) .nil)) (c119 f ([] : List Win) (by omega) (by (try simp only [List.length_nil]); omega)) (Nat.le_of_ble_eq_true rfl) mv mT mN ?_
      repeat refine dr_act wN mb ma mc mT mR ?_
      refine dr_call wN mr mb mx (.cons (fR mr) (.cons (fR mr) .nil)) (c119 (f ++ ([] : List Win)) s (by rw [List.length_append]; (try simp only [List.length_nil]); omega) (by omega)) (Nat.le_of_ble_eq_true rfl) mv mT mN ?_
      refine dr_callR [1112] [] wN mr mb mx (c118b (f ++ ([] : List Win) ++ s) (by omega)) (.ren rfl rfl .nil) (handW mr) ⟨⟨by decide, nz⟩, Nat.le_of_ble_eq_true rfl⟩ (v := .tup [zR, vb false]) rfl mT (wrW.trans mRd) ?_
      repeat refine dr_act wN mb ma mc mT mR ?_
      refine dr_nil ⟨fun _ => by kernel_rfl, h1 _ ?_⟩; clear h1
      refine ev_seq fun K1 h1 => ?_
      refine ev_seq fun K2 h2 => ev_rf mB ?_
      repeat refine dr_act wN mb ma mc mT mR ?_
      iterate 2 refine dr_skip wG mT ?_
      repeat refine dr_act wN mb ma mc mT mR ?_
      refine dr_nil (h2 _ ?_); clear h2
      refine ev_cond true mlq (fun h => ?_) (fun h => by cases h)
      refine ev_seq fun K2 h2 => ev_rf mB ?_
      repeat refine dr_act wN mb ma mc mT mR ?_
      refine dr_nil (h2 _ (ev_ret ?_)); clear h2 h1
      exact retL [] (res' := [.cell 8 31, .cell 9 98, .tmp 10]) mr (.cell nT mZ ma mc mP (.cell nT mZ ma mc mP (.tmp nT mL .nil))) rfl mr (by decide) trivial
  · rw [hnw] at h116 hins
    have hown := newM_own hnw
    simp only [] at hins
    refine ev_seq fun K1 h1 => ev_rf mB ?_
    repeat refine dr_act wN mb ma mc mT mR ?_
    refine dr_callF wN mr mb mx mr h116 (Nat.le_of_ble_eq_true rfl) mv mT mN ?_
    repeat refine dr_act wN mb ma mc mT mR ?_
    refine dr_nil (h1 _ ?_); clear h1
    refine ev_weak (weak_ren (b' := 1000) (T' := [(2, vi i), (5, .ptr (8, none) 0 0), (8, .ptr (16, none) 0 0), (9, .ptr (24, none) 0 0), (11, .ptr (136, none) 0 0), (12, .ptr (144, none) 0 0), (13, vb true)]) (R' := [(8, ⟨98, 1, [[eWS ws]]⟩), (16, ⟨31, 1, [[.val (.slice none 0 0)]]⟩), (24, ⟨98, 1, [[.val (.slice none 0 0)]]⟩), (136, ⟨31, 1, [[.ref (96, none) 0 m'.length]]⟩), (144, ⟨98, 1, [[.ref (97, none) 0 own.length]]⟩), (97, rWS own), (96, rM m')]) [] mK (chkR_cons mK (chkR_cons mK (chkR_cons mK (chkR_cons mK (chkR_cons mK (chkRm rfl (by decide) rfl (fun _ => rfl) (fun a => by simp [okC]) (chkRm rfl (by decide) rfl (fun _ => rfl) (fun a => by simp [okC]) trivial))))))) mD mQ) ?_
    refine ev_seq fun K1 h1 => ev_rf mB ?_
    repeat refine dr_act wN mb ma mc mT mR ?_
    refine dr_callF wN mr mb mx mr h117 (Nat.le_of_ble_eq_true rfl) mv mT mN ?_
    repeat refine dr_act wN mb ma mc mT mR ?_
    refine dr_nil (h1 _ ?_); clear h1
    by_cases h12 : (f ++ own ++ s).length ≤ 12
    · rw [if_pos h12] at hins
      rw [hins]
      refine ev_seq fun K1 h1 => ev_reg mB ?_
      repeat refine dr_act wN mb ma mc mT mR ?_
      refine dr_call wN mr mb mx (.cons (fR mr) (.cons (fR mr) .nil)) (c119 f own (by omega) (by (try simp only [List.length_nil]); omega)) (Nat.le_of_ble_eq_true rfl) mv mT mN ?_
      repeat refine dr_act wN mb ma mc mT mR ?_
      refine dr_call wN mr mb mx (.cons (fR mr) (.cons (fR mr) .nil)) (c119 (f ++ own) s (by rw [List.length_append]; (try simp only [List.length_nil]); omega) (by omega)) (Nat.le_of_ble_eq_true rfl) mv mT mN ?_
      refine dr_callR [1112] [] wN mr mb mx (c118a (f ++ own ++ s) (by omega)) (.ren rfl rfl .nil) (handW mr) ⟨⟨by decide, nz⟩, Nat.le_of_ble_eq_true rfl⟩ (v := .tup [oR 1112 (f ++ own ++ s), vb true]) rfl mT (wrW.trans mRd) ?_
      repeat refine dr_act wN mb ma mc mT mR ?_
      refine dr_nil ⟨fun _ => by kernel_rfl, h1 _ ?_⟩; clear h1
      refine ev_seq fun K1 h1 => ?_
      refine ev_seq fun K2 h2 => ev_rf mB ?_
      repeat refine dr_act wN mb ma mc mT mR ?_
      iterate 2 refine dr_act wG mb ma mc mT mR ?_
      repeat refine dr_act wN mb ma mc mT mR ?_
      refine dr_nil (h2 _ ?_); clear h2
      refine ev_cond false mlq (fun h => by cases h) (fun h => ev_skip (h1 _ ?_)); clear h1
      refine ev_seq fun K1 h1 => ev_reg mB ?_
      repeat refine dr_act wN mb ma mc mT mR ?_
      refine dr_nil ⟨fun _ => by kernel_rfl, h1 _ (ev_ret ?_)⟩; clear h1
      exact retL [96, 1112] (res' := [.cell 8 31, .cell 9 98, .tmp 10]) mr (.cell nT mZ ma mc mP (.cell nT mZ ma mc mP (.tmp nT mL .nil))) rfl mr (by decide) ⟨⟨mr, okRM⟩, ⟨mr, okRW⟩, trivial⟩
    · rw [if_neg h12] at hins
      rw [hins]
      refine ev_seq fun K1 h1 => ev_reg mB ?_
      repeat refine dr_act wN mb ma mc mT mR ?_
      refine dr_call wN mr mb mx (.cons (fR mr) (.cons (fR mr) .nil)) (c119 f own (by omega) (by (try simp only [List.length_nil]); omega)) (Nat.le_of_ble_eq_true rfl) mv mT mN ?_
      repeat refine dr_act wN mb ma mc mT mR ?_
      refine dr_call wN mr mb mx (.cons (fR mr) (.cons (fR mr) .nil)) (c119 (f ++ own) s (by rw [List.length_append]; (try simp only [List.length_nil]); omega) (by omega)) (Nat.le_of_ble_eq_true rfl) mv mT mN ?_
      refine dr_callR [1112] [] wN mr mb mx (c118b (f ++ own ++ s) (by omega)) (.ren rfl rfl .nil) (handW mr) ⟨⟨by decide, nz⟩, Nat.le_of_ble_eq_true rfl⟩ (v := .tup [zR, vb false]) rfl mT (wrW.trans mRd) ?_
      repeat refine dr_act wN mb ma mc mT mR ?_
      refine dr_nil ⟨fun _ => by kernel_rfl, h1 _ ?_⟩; clear h1
      refine ev_seq fun K1 h1 => ?_
      refine ev_seq fun K2 h2 => ev_rf mB ?_
      repeat refine dr_act wN mb ma mc mT mR ?_
      iterate 2 refine dr_act wG mb ma mc mT mR ?_
      repeat refine dr_act wN mb ma mc mT mR ?_
      refine dr_nil (h2 _ ?_); clear h2
      refine ev_cond true mlq (fun h => ?_) (fun h => by cases h)
      refine ev_seq fun K2 h2 => ev_rf mB ?_
      repeat refine dr_act wN mb ma mc mT mR ?_
      refine dr_nil (h2 _ (ev_ret ?_)); clear h2 h1
      exact retL [] (res' := [.cell 8 31, .cell 9 98, .tmp 10]) mr (.cell nT mZ ma mc mP (.cell nT mZ ma mc mP (.tmp nT mL .nil))) rfl mr (by decide) trivial
end Go.Ev
namespace Go.Ev
open Go Go.RowKit Go.Proofs

theorem all_hasW {m : List (List Int)} {ws : List Win} : (okM m && ws.all (hasW m)) = (okM m && ws.all (okW m)) := by
  cases hM : okM m
  · rfl
  · have e : hasW m = okW m := by
      funext w
      have := okW_eq (m := m) (w := w)
      rw [hM, Bool.true_and] at this
      exact this
    rw [e]

theorem c122 (m : List (List Int)) (ws : List Win) (hl1 : m.length ≤ 1048576) (hl2 : ∀ r, r ∈ m → r.length ≤ 1048576) (hw : ws.length ≤ 1048576) : Good Try.prog 122 [eMem m, eR ws] (vb (okR m ws)) [] := by
  refine good_of (E := En 15) (fn := Try.f122) (by kernel_rfl) (by kernel_rfl) rfl rfl (by simp only [List.length_cons, List.length_nil]; decide) (fun C0 => ?_)
  have hcs := c146 m ws hl1 hl2 hw
  rw [all_hasW] at hcs
  simp only [argT, eR, eWS]
  refine ev_seq fun K1 h1 => ev_rf mB ?_
  repeat refine dr_act wN mb ma mc mT mR ?_
  refine dr_nil (h1 _ ?_); clear h1 K1
  refine ev_seq fun K1 h1 => ev_rf mB ?_
  repeat refine dr_act wN mb ma mc mT mR ?_
  refine dr_callF wN mr mb mx mr hcs (Nat.le_of_ble_eq_true rfl) mv mT mN ?_
  repeat refine dr_act wN mb ma mc mT mR ?_
  cases hR : (okM m && ws.all (okW m))
  · iterate 4 refine dr_skip wG mT ?_
    repeat refine dr_act wN mb ma mc mT mR ?_
    refine dr_nil (h1 _ (ev_ret ?_)); clear h1
    exact retT [4] (hv := by rw [okR, hR]; rfl)
  repeat refine dr_act wG mb ma mc mT mR ?_
  repeat refine dr_act wN mb ma mc mT mR ?_
  refine dr_nil (h1 _ (ev_ret ?_)); clear h1
  exact retT [4] (hv := by rw [okR, hR]; rfl)

theorem c124 (ws : List Win) (hw : ws.length ≤ 1048576) (hb : ∀ w, w ∈ ws → 0 ≤ w.n ∧ w.n ≤ 64) : Good Try.prog 124 [eR ws] (vi (lenR ws)) [] := by
  refine good_of (E := En 19) (fn := Try.f124) (by kernel_rfl) (by kernel_rfl) rfl rfl (by simp only [List.length_cons, List.length_nil]; decide) (fun C0 => ?_)
  simp only [argT, eR, eWS]
  iterate 2
    refine ev_seq fun K1 h1 => ev_rf mB ?_
    repeat refine dr_act wN mb ma mc mT mR ?_
    refine dr_nil (h1 _ ?_); clear h1 K1
  refine ev_seq fun K1 h1 => ?_
  refine ev_seq fun K2 h2 => ev_rf mB ?_
  repeat refine dr_act wN mb ma mc mT mR ?_
  refine dr_nil (h2 _ ?_); clear h2 K2
  refine ev_block (ev_loop (α := {i : Nat // i ≤ ws.length}) (fun i => ⟨[(3, vi (lenR (ws.take i.1))), (7, .list 4 (ws.map cW)), (8, vi ws.length), (9, vi i.1)], [], 56⟩) (fun i => ws.length - i.1) ⟨0, Nat.zero_le _⟩ (weak_ren [] mK mK mD mQ) (fun ⟨i, hi⟩ => ?_))
  refine ev_seq fun K2 h2 => ev_rf mB ?_
  repeat refine dr_act wN mb ma mc mT mR ?_
  refine dr_nil (h2 _ ?_); clear h2
  refine ev_seq fun K2 h2 => ?_
  refine ev_cond _ ml (fun h => ev_skip (h2 _ ?_)) (fun h => ev_exit ?_)
  · clear h1 h2
    have hlt : i < ws.length := by have := of_decide_eq_true h; omega
    have h1 := lenR_le (ws.take i) fun w hw => hb w (List.mem_of_mem_take hw)
    rw [List.length_take] at h1
    have h2 := hb _ (mem_w hlt)
    have e1 : IntKind.i64.wrap (lenR (ws.take i) + (ws.getD i wz).n) = lenR (ws.take (i + 1)) := by
      rw [take_w hlt, lenR_app, wrap_of (by omega) (by omega)]; simp only [lenR]; omega
    refine ev_seq fun K2 h2 => ev_block (ev_seq fun K3 h3 => ev_rf mB ?_)
    refine dr_ix (wz : Win) wN mr mb ml ml mS (by omega) mT ?_
    repeat refine dr_act wN mb ma mc mT mR ?_
    refine dr_nil (h3 _ ?_); clear h3
    refine ev_rf mB ?_
    repeat refine dr_act wN mb ma mc mT mR ?_
    rw [Int.toNat_natCast, e1]
    refine dr_nil (h2 _ (ev_rf mB ?_)); clear h2
    repeat refine dr_act wN mb ma mc mT mR ?_
    refine dr_nil ⟨⟨i + 1, by omega⟩, by simp only []; omega, ?_⟩
    rw [w64p (n := ws.length) (by omega) (by omega)]
    exact weak_ren [] mK mK mD mQ
  · simp only [seqK, loopK, blkK, ↓reduceIte]
    refine h1 _ ?_; clear h1 h2
    have hge := of_decide_eq_false h
    obtain rfl : i = ws.length := by omega
    refine ev_seq fun K1 h1 => ev_rf mB ?_
    repeat refine dr_act wN mb ma mc mT mR ?_
    refine dr_nil (h1 _ (ev_ret ?_)); clear h1
    exact retT [2] (hv := by rw [List.take_length]; rfl)

theorem c159 (w : Win) (a b : Int) : Good Try.prog 159 [eW w, vi a, vi b] (eW ⟨w.a, w64 (w.s + a), b, b⟩) [] := by
  refine good_of (E := En 16) (fn := Try.f159) (by kernel_rfl) (by kernel_rfl) rfl rfl (by simp only [List.length_cons, List.length_nil]; decide) (fun C0 => ?_)
  simp only [argT, Nat.reduceAdd]
  iterate 2
    refine ev_seq fun K1 h1 => ev_rf mB ?_
    repeat refine dr_act wN mb ma mc mT mR ?_
    refine dr_nil (h1 _ ?_); clear h1 K1
  refine ev_ret ?_
  exact retC [] (hR := trivial)

def nwM (m : List (List Int)) (n : Int) : Option (List (List Int) × Win) :=
  if okM m = true ∧ (1 ≤ n ∧ n ≤ 64) ∧ ¬ m.length = 16 then some (m ++ [List.replicate n.toNat 0], ⟨m.length, 0, n, n⟩) else none

theorem c128 (m : List (List Int)) (n : Int) (hl1 : m.length ≤ 1048576) (hl2 : ∀ r, r ∈ m → r.length ≤ 1048576) : Good Try.prog 128 [eMem m, vi n] (oMW (nwM m n)) (rMW (nwM m n)) := by
  refine good_of (E := En 40) (fn := Try.f128) (by kernel_rfl) (by kernel_rfl) rfl rfl (by simp only [List.length_cons, List.length_nil]; decide) (fun C0 => ?_)
  simp only [argT, Nat.reduceAdd]
  refine ev_seq fun K1 h1 => ev_rf mB ?_
  repeat refine dr_act wN mb ma mc mT mR ?_
  refine dr_nil (h1 _ ?_); clear h1 K1
  refine ev_seq fun K1 h1 => ?_
  refine ev_seq fun K2 h2 => ev_rf mB ?_
  repeat refine dr_act wN mb ma mc mT mR ?_
  refine dr_callF wN mr mb mx mr (c162 m hl1) (Nat.le_of_ble_eq_true rfl) mv mT mN ?_
  cases hM : okM m
  · have e : nwM m n = none := by rw [nwM, if_neg (fun h => by rw [hM] at h; cases h.1)]
    rw [e] at h1 h2 ⊢
    repeat refine dr_act wN mb ma mc mT mR ?_
    iterate 3 refine dr_skip wG mT ?_
    repeat refine dr_act wN mb ma mc mT mR ?_
    iterate 4 refine dr_skip wG mT ?_
    repeat refine dr_act wN mb ma mc mT mR ?_
    refine dr_nil (h2 _ ?_); clear h2
    refine ev_cond true mlq (fun h => ?_) (fun h => by cases h)
    refine ev_seq fun K2 h2 => ev_rf mB ?_
    repeat refine dr_act wN mb ma mc mT mR ?_
    refine dr_nil (h2 _ (ev_ret ?_)); clear h2 h1
    exact retL [] (res' := [.cell 4 31, .cell 5 32, .tmp 6]) mr (.cell nT mZ ma mc mP (.cell nT mZ ma mc mP (.tmp nT mL .nil))) rfl mr (by decide) trivial
  repeat refine dr_act wN mb ma mc mT mR ?_
  repeat refine dr_act wG mb ma mc mT mR ?_
  refine dr_callF wG mr mb mx mr (c123 n 1 64) (Nat.le_of_ble_eq_true rfl) mv mT mN ?_
  cases hN : decide (1 ≤ n ∧ n ≤ 64)
  · have e : nwM m n = none := by rw [nwM, if_neg (fun h => of_decide_eq_false hN h.2.1)]
    rw [e] at h1 h2 ⊢
    refine dr_act wG mb ma mc mT mR ?_
    repeat refine dr_act wN mb ma mc mT mR ?_
    iterate 4 refine dr_skip wG mT ?_
    repeat refine dr_act wN mb ma mc mT mR ?_
    refine dr_nil (h2 _ ?_); clear h2
    refine ev_cond true mlq (fun h => ?_) (fun h => by cases h)
    refine ev_seq fun K2 h2 => ev_rf mB ?_
    repeat refine dr_act wN mb ma mc mT mR ?_
    refine dr_nil (h2 _ (ev_ret ?_)); clear h2 h1
    exact retL [] (res' := [.cell 4 31, .cell 5 32, .tmp 6]) mr (.cell nT mZ ma mc mP (.cell nT mZ ma mc mP (.tmp nT mL .nil))) rfl mr (by decide) trivial
  have hn := of_decide_eq_true hN
  refine dr_act wG mb ma mc mT mR ?_
  repeat refine dr_act wN mb ma mc mT mR ?_
  repeat refine dr_act wG mb ma mc mT mR ?_
  repeat refine dr_act wN mb ma mc mT mR ?_
  refine dr_nil (h2 _ ?_); clear h2
  refine ev_cond _ ml (fun h => ?_) (fun h => ev_skip (h1 _ ?_))
  · have hm : (m.length : Int) = 16 := of_decide_eq_true h
    have e : nwM m n = none := by rw [nwM, if_neg (fun h => h.2.2 (by omega))]
    rw [e]
    refine ev_seq fun K2 h2 => ev_rf mB ?_
    repeat refine dr_act wN mb ma mc mT mR ?_
    refine dr_nil (h2 _ (ev_ret ?_)); clear h2 h1
    exact retL [] (res' := [.cell 4 31, .cell 5 32, .tmp 6]) mr (.cell nT mZ ma mc mP (.cell nT mZ ma mc mP (.tmp nT mL .nil))) rfl mr (by decide) trivial
  have hm : ¬ (m.length : Int) = 16 := of_decide_eq_false h
  clear h1
  have e : nwM m n = some (m ++ [List.replicate n.toNat 0], ⟨m.length, 0, n, n⟩) := by rw [nwM, if_pos ⟨hM, hn, by omega⟩]
  rw [e]
  refine ev_seq fun K1 h1 => ev_rf mB ?_
  repeat refine dr_act wN mb ma mc mT mR ?_
  refine dr_callF wN mr mb mx mr (c127 m hl1 hl2) (Nat.le_of_ble_eq_true rfl) mv mT mN ?_
  repeat refine dr_act wN mb ma mc mT mR ?_
  refine dr_nil (h1 _ ?_); clear h1
  refine ev_seq fun K1 h1 => ev_reg mB ?_
  repeat refine dr_act wN mb ma mc mT mR ?_
  refine dr_act wN mb ma (by omega) mT mR ?_
  refine dr_act wN mb ma (by exact ⟨⟨by decide, by decide, fun x hx => by simp at hx; subst hx; rfl⟩, ⟨by rw [List.length_replicate], by simp [notRow]⟩, by decide⟩) mT mR ?_
  refine dr_act wN mb ma (by exact ⟨by simp only [maxLen]; omega, by omega⟩) mT mR ?_
  repeat refine dr_act wN mb ma mc mT mR ?_
  refine dr_nil ⟨fun _ => by kernel_rfl, h1 _ ?_⟩; clear h1
  refine ev_seq fun K1 h1 => ev_reg mB ?_
  repeat refine dr_act wN mb ma mc mT mR ?_
  refine dr_nil ⟨fun _ => by kernel_rfl, h1 _ (ev_ret ?_)⟩; clear h1
  refine retL [216] (res' := [.cell 4 31, .cell 5 32, .tmp 6]) mr (.cell nT mZ ma mc mP (.cell nT mZ ma mc mP (.tmp nT mL .nil))) ?_ mr (by decide) ⟨⟨?_, okRM⟩, trivial⟩
  · simp only [oMW, oM, List.length_append, List.length_cons, List.length_nil]; rfl
  · show some (Root.mk 29 1 (m.map cR ++ [[.row 1 _]])) = some (Root.mk 29 1 ((m ++ [List.replicate n.toNat 0]).map cR))
    rw [List.map_append, List.map_cons, List.map_nil, cR, ← rep0]
end Go.Ev
namespace Go.Ev
open Go Go.RowKit
variable {E : Env} {C0 C : Cx}

def preR (r : Root) (k : Nat) : Root := { r with els := r.els.take k }

/-- The first elements of a root alone, under a new name. -/
theorem pre_ok (hC : Sat C) {n b k : Nat} {r : Root} (hn : C.R n = some r) (hb : ¬ C.A b) :
    ∃ C', C'.w = C.w ∧ Sat C' ∧ Ext C C' ∧ Fr C C' ∧ (C'.R = fun y => if y = b then some (preR r k) else if y ∈ [n] then none else C.R y) ∧ (∀ y, C'.A y → C.A y ∨ y = b) ∧
      ∀ v off len, off + len ≤ k → VR C v (.ref (n, none) off len) → VR C' v (.ref (b, none) off len) := by
  let C' := mkCx C C.w [n] b (preR r k) (fun q => C.io (n, q))
  have hRb : C'.R b = some (preR r k) := if_pos rfl
  have hio : ∀ q, C'.io (b, q) = C.io (n, q) := fun q => if_pos rfl
  have gn : getP C.R (n, none) = some (r.sz, r.els) := act_of hn
  have tk : ∀ (i : Nat) x, (r.els.take k)[i]? = some x → i < k ∧ r.els[i]? = some x := by
    intro i x h
    rw [List.getElem?_take] at h
    split at h
    · exact ⟨by assumption, h⟩
    · cases h
  have new : ∀ q sz xs, getP C'.R (b, q) = some (sz, xs) → (q = none ∧ sz = r.sz ∧ xs = r.els.take k) ∨ (q ≠ none ∧ getP C.R (n, q) = some (sz, xs)) := by
    intro q sz xs h
    cases q with
    | none =>
      rw [act_of hRb] at h
      simp only [Option.some.injEq, Prod.mk.injEq] at h
      exact .inl ⟨rfl, h.1.symm, h.2.symm⟩
    | some ij =>
      obtain ⟨i, j⟩ := ij
      obtain ⟨x, h1, h2⟩ := getP_row hRb h
      exact .inr ⟨by simp, getP_cell hn (tk i x h1).2 h2⟩
  have act : ∀ q, Act? C' (b, q) → Act? C (n, q) := by
    intro q h
    obtain ⟨⟨sz, xs⟩, e⟩ := Option.isSome_iff_exists.1 h
    rcases new q sz xs e with ⟨rfl, _, _⟩ | ⟨_, h1⟩
    · unfold Act?; rw [gn]; rfl
    · unfold Act?; rw [h1]; rfl
  have slx : ∀ q off len a cap, (q = none → off + len ≤ k) → (∀ sz xs, getP C.R (n, q) = some (sz, xs) → SlAt C (n, q) sz xs a off len cap) → ∀ sz xs, getP C'.R (b, q) = some (sz, xs) → SlAt C' (b, q) sz xs a off len cap := by
    intro q off len a cap hq h sz xs hg
    rcases new q sz xs hg with ⟨rfl, rfl, rfl⟩ | ⟨_, h1⟩
    · obtain ⟨o1, o2, o3, o4, o5⟩ := h _ _ gn
      have := hq rfl
      exact ⟨by rw [List.length_take]; omega, o2, o3, fun h => o4 (hio none ▸ h), fun g hg => o5 g (hio none ▸ hg)⟩
    · obtain ⟨o1, o2, o3, o4, o5⟩ := h _ _ h1
      exact ⟨o1, o2, o3, fun h => o4 (hio q ▸ h), fun g hg => o5 g (hio q ▸ hg)⟩
  obtain ⟨S1, S2, S3⟩ := mk_sat (D := [n]) (r := preR r k) (pl := fun q => C.io (n, q)) hC hb ⟨rfl, rfl, rfl, Nat.le_refl _⟩ (fun _ _ _ => rfl)
    (fun he q sz xs hg => by
      rcases new q sz xs hg with ⟨rfl, rfl, rfl⟩ | ⟨hq, h1⟩
      · obtain ⟨k1, k2, k3⟩ := hC.pl _ _ _ gn
        refine ⟨fun x hx => k1 x (List.mem_of_mem_take hx), fun h => by rw [k2 (hio none ▸ h)]; exact List.take_nil, fun g hgi => ?_⟩
        obtain ⟨cs, ty, m1, m2, m3, m4⟩ := k3 g (hio none ▸ hgi)
        refine ⟨cs, ty, m1, fun _ r' hr' => ?_, Nat.le_trans (Nat.mul_le_mul_right _ (by rw [List.length_take]; omega)) m3, fun a x c d h1 h2 => ?_⟩
        · have : r' = preR r k := Option.some.inj (hr'.symm.trans hRb)
          subst this
          exact m2 rfl r hn
        · obtain ⟨v, n1, n2, n3⟩ := m4 a x c d (tk a x h1).2 h2
          refine ⟨v, n1, n2, ?_⟩
          cases d with
          | row s us =>
            obtain ⟨n4, n5⟩ := n3
            obtain ⟨a', cap, rfl, hA, hsl⟩ := n5.ref_inv
            exact ⟨rfl, .ref (.inr rfl) (slx _ _ _ _ _ (fun h => by cases h) hsl)⟩
          | _ => exact VR.ext he n3
      · obtain ⟨k1, k2, k3⟩ := hC.pl _ _ _ h1
        refine ⟨k1, fun h => k2 (hio q ▸ h), fun g hgi => ?_⟩
        obtain ⟨cs, ty, m1, m2, m3, m4⟩ := k3 g (hio q ▸ hgi)
        refine ⟨cs, ty, m1, fun h => absurd h hq, m3, fun a x c d h1 h2 => ?_⟩
        obtain ⟨v, n1, n2, n3⟩ := m4 a x c d h1 h2
        refine ⟨v, n1, n2, ?_⟩
        cases d <;> first | exact VR.ext he n3 | exact absurd n3.1 hq)
    (fun q q' g hq hq' h1 h2 => by
      have := hC.inj _ _ g (act q hq) (act q' hq') h1 h2
      simp only [Prod.mk.injEq] at this
      exact this.2)
    (fun q g hq h1 => .inr ⟨_, act q hq, by simp, h1⟩)
  refine ⟨C', rfl, S1, S2, S3, rfl, fun y hy => hy, fun v off len hle hv => ?_⟩
  obtain ⟨a', cap, rfl, hA, hsl⟩ := hv.ref_inv
  exact .ref (.inr rfl) (slx _ _ _ _ _ (fun _ => hle) hsl)

/-- A value behind it. -/
def preC (n b k : Nat) : V → V
  | .ref (x, none) off len => if x = n then (if off + len ≤ k then .ref (b, none) off len else .any) else .ref (x, none) off len
  | x => x

/-- Only the first elements of a root are known from then on; it bears a new name. -/
theorem weak_pre (n k : Nat) {b b' : Nat} {T T' : List (Nat × V)} {R R' : List (Nat × Root)} {r : Root} (hn : lookR R n = some r)
    (hT : (T.map fun p => (p.1, preC n b k p.2)) = T') (hR : (b, preR r k) :: dropR R n = R') (hb : b < b') : Weak E C0 ⟨T, R, b⟩ ⟨T', R', b'⟩ := by
  subst hT; subst hR
  rintro a w ⟨C, rfl, hC, hCR, hTs, hsz, hd, hF, hA⟩
  have hnb : ¬ C.A b := fun h => by
    rcases hA b h with h1 | ⟨_, h1, _⟩
    · exact absurd h1 (by show ¬ b < b; omega)
    · exact h1
  obtain ⟨C', e1, S1, S2, S3, e2, e3, e4⟩ := pre_ok (b := b) (k := k) hC (by rw [hCR]; exact hn) hnb
  refine ⟨C', e1, S1, ?_, fun t ht => ?_, hsz, hd, hF.next S2 S3, fun y hy => ?_⟩
  · rw [e2, hCR]
    funext y
    show _ = lookR ((b, preR r k) :: dropR R n) y
    simp only [lookR, lookR_drop]
    by_cases c1 : y = b
    · rw [if_pos c1, if_pos c1.symm]
    · rw [if_neg c1, if_neg (Ne.symm c1)]
      by_cases c2 : y = n
      · rw [if_pos (by simp [c2]), if_pos c2]
      · rw [if_neg (by simp [c2]), if_neg c2]
  · show VR C' _ (lookT (T.map fun p => (p.1, preC n b k p.2)) t)
    rw [lookT_map rfl]
    have hv := hTs t ht
    unfold preC
    split
    · rename_i x off len hx
      rw [hx] at hv
      split
      · rename_i e; subst e
        split
        · exact e4 _ _ _ (by assumption) hv
        · exact .fro (.any _)
      · exact hv.ext S2
    · exact hv.ext S2
  · rcases e3 y hy with h | h
    · rcases hA y h with h1 | ⟨_, h1, _⟩
      · exact .inl (Nat.lt_trans h1 hb)
      · exact h1.elim
    · exact .inl (by rw [h]; exact hb)
end Go.Ev
namespace Go.Ev
open Go Go.RowKit Go.Proofs

abbrev vn : V := .val (.slice none 0 0)

theorem c194z : Good Try.prog 194 [vn, vi 0] vn [] := by
  refine good_of (E := En 27) (fn := Try.f194) (by kernel_rfl) (by kernel_rfl) rfl rfl (by simp only [List.length_cons, List.length_nil]; decide) (fun C0 => ?_)
  simp only [argT, Nat.reduceAdd]
  refine ev_seq fun K1 h1 => ev_rf mB ?_
  repeat refine dr_act wN mb ma mc mT mR ?_
  refine dr_nil (h1 _ ?_); clear h1
  refine ev_seq fun K1 h1 => ?_
  refine ev_seq fun K2 h2 => ev_rf mB ?_
  repeat refine dr_act wN mb ma mc mT mR ?_
  refine dr_nil (h2 _ ?_); clear h2
  refine ev_cond _ ml (fun h => by cases h) (fun h => ev_skip (h1 _ ?_)); clear h1
  refine ev_seq fun K0 h0 => ?_
  refine ev_seq fun K1 h1 => ev_rf mB ?_
  repeat refine dr_act wN mb ma mc mT mR ?_
  refine dr_nil (h1 _ ?_); clear h1
  refine ev_seq fun K2 h2 => ev_rf mB ?_
  repeat refine dr_act wN mb ma mc mT mR ?_
  refine dr_nil (h2 _ ?_); clear h2
  refine ev_cond _ ml (fun h => by cases h) (fun h => ev_skip (h0 _ ?_)); clear h0
  refine ev_seq fun K1 h1 => ev_rf mB ?_
  repeat refine dr_act wN mb ma mc mT mR ?_
  refine dr_nil (h1 _ (ev_ret ?_)); clear h1
  exact retL [] (res' := [.tmp 4]) mr (.tmp nT mL .nil) rfl mr (by decide) trivial

theorem c194p (n : Nat) (h0 : 0 < n) (hn : n ≤ 1048576) : Good Try.prog 194 [vn, vi n] (.ref (0, none) 0 0) [⟨32, 4, []⟩] := by
  refine good_of (E := En 27) (fn := Try.f194) (by kernel_rfl) (by kernel_rfl) rfl rfl (by simp only [List.length_cons, List.length_nil]; decide) (fun C0 => ?_)
  have w0 : IntKind.i64.wrap (0 - 0) = 0 := rfl
  have w1 : IntKind.i64.wrap ((n : Int) - IntKind.i64.wrap (0 - 0)) = n := by rw [w0]; exact (wrap_of (by omega) (by omega)).trans (by omega)
  simp only [argT, Nat.reduceAdd]
  refine ev_seq fun K1 h1 => ev_rf mB ?_
  repeat refine dr_act wN mb ma mc mT mR ?_
  refine dr_nil (h1 _ ?_); clear h1
  refine ev_seq fun K1 h1 => ?_
  refine ev_seq fun K2 h2 => ev_rf mB ?_
  repeat refine dr_act wN mb ma mc mT mR ?_
  refine dr_nil (h2 _ ?_); clear h2
  refine ev_cond _ ml (fun h => absurd (of_decide_eq_true h) (by omega)) (fun h => ev_skip (h1 _ ?_)); clear h1 h
  refine ev_seq fun K0 h0' => ?_
  refine ev_seq fun K1 h1 => ev_rf mB ?_
  repeat refine dr_act wN mb ma mc mT mR ?_
  refine dr_nil (h1 _ ?_); clear h1
  refine ev_seq fun K2 h2 => ev_rf mB ?_
  repeat refine dr_act wN mb ma mc mT mR ?_
  refine dr_nil (h2 _ ?_); clear h2
  refine ev_cond _ ml (fun h => ?_) (fun h => absurd (of_decide_eq_false h) (by rw [w1]; omega))
  rw [w1]
  refine ev_rf mB ?_
  iterate 5 refine dr_act wN mb ma mc mT mR ?_
  refine dr_act wN mb ma (by exact ⟨by omega, by omega, by omega⟩) mT mR ?_
  repeat refine dr_act wN mb ma mc mT mR ?_
  refine dr_nil (h0' _ ?_); clear h0'
  refine ev_weak (weak_pre 144 0 mr mr mr (b' := 192) (by decide)) ?_
  refine ev_seq fun K1 h1 => ev_rf mB ?_
  repeat refine dr_act wN mb ma mc mT mR ?_
  refine dr_nil (h1 _ (ev_ret ?_)); clear h1
  exact retL [184] (res' := [.tmp 4]) mr (.tmp nT mL .nil) rfl mr (by decide) ⟨⟨mr, rfl⟩, trivial⟩

theorem c194 (n : Nat) (hn : n ≤ 1048576) : Good Try.prog 194 [vn, vi n] (.ref (0, none) 0 0) [⟨32, 4, []⟩] := by
  by_cases h0 : n = 0
  · subst h0
    exact good_nilX c194z fun C u he hu => empty_ref hu
  · exact c194p n (by omega) hn

abbrev cWS (ws : List Win) : List V := [eWS ws]
abbrev eWSS (wss : List (List Win)) : V := .list 1 (wss.map cWS)

theorem take_ws {wss : List (List Win)} {i : Nat} (h : i < wss.length) : (wss.take (i + 1)).flatten = (wss.take i).flatten ++ wss.getD i [] := by
  rw [List.take_succ_eq_append_getElem h, List.getD_eq_getElem?_getD, List.getElem?_eq_getElem h, List.flatten_append]; simp
theorem take_wl (wss : List (List Win)) (i : Nat) : (wss.take i).flatten.length ≤ wss.flatten.length := by
  have : wss.flatten = (wss.take i).flatten ++ (wss.drop i).flatten := by rw [← List.flatten_append, List.take_append_drop]
  rw [this, List.length_append]; omega

theorem c160 (wss : List (List Win)) (hl : wss.length ≤ 1048576) (hw : wss.flatten.length ≤ 1048576) : Good Try.prog 160 [eWSS wss] (.ref (0, none) 0 wss.flatten.length) [rWS wss.flatten] := by
  refine good_of (E := En 36) (fn := Try.f160) (by kernel_rfl) (by kernel_rfl) rfl rfl (by simp only [List.length_cons, List.length_nil]; decide) (fun C0 => ?_)
  simp only [argT, Nat.reduceAdd]
  iterate 2
    refine ev_seq fun K1 h1 => ev_rf mB ?_
    repeat refine dr_act wN mb ma mc mT mR ?_
    refine dr_nil (h1 _ ?_); clear h1 K1
  refine ev_seq fun K1 h1 => ?_
  refine ev_seq fun K2 h2 => ev_rf mB ?_
  repeat refine dr_act wN mb ma mc mT mR ?_
  refine dr_nil (h2 _ ?_); clear h2 K2
  refine ev_block (ev_loop (α := {i : Nat // i ≤ wss.length}) (fun i => ⟨[(0, eWSS wss), (3, vi ((wss.take i.1).flatten.length : Nat)), (9, eWSS wss), (10, vi wss.length), (11, vi i.1)], [], 32⟩) (fun i => wss.length - i.1) ⟨0, Nat.zero_le _⟩ (weak_ren [] mK mK mD mQ) (fun ⟨i, hi⟩ => ?_))
  refine ev_seq fun K2 h2 => ev_rf mB ?_
  repeat refine dr_act wN mb ma mc mT mR ?_
  refine dr_nil (h2 _ ?_); clear h2
  refine ev_seq fun K2 h2 => ?_
  refine ev_cond _ ml (fun h => ev_skip (h2 _ ?_)) (fun h => ev_exit ?_)
  · clear h1 h2
    have hlt : i < wss.length := by have := of_decide_eq_true h; omega
    have t1 := take_wl wss i
    have t2 := take_wl wss (i + 1)
    have t3 := take_ws hlt
    have t4 : (wss.take (i + 1)).flatten.length = (wss.take i).flatten.length + (wss.getD i []).length := by rw [t3, List.length_append]
    have e1 : IntKind.i64.wrap (((wss.take i).flatten.length : Nat) + ((wss.getD i []).length : Nat)) = ((wss.take (i + 1)).flatten.length : Nat) := by
      rw [wrap_of (by omega) (by omega)]; omega
    refine ev_seq fun K2 h2 => ev_block (ev_seq fun K3 h3 => ev_rf mB ?_)
    refine dr_ix ([] : List Win) wN mr mb ml ml mS (by omega) mT ?_
    repeat refine dr_act wN mb ma mc mT mR ?_
    refine dr_nil (h3 _ ?_); clear h3
    refine ev_seq fun K3 h3 => ev_rf mB ?_
    repeat refine dr_act wN mb ma mc mT mR ?_
    rw [Int.toNat_natCast, List.length_map, e1]
    refine dr_nil (h3 _ ?_); clear h3
    refine ev_seq fun K3 h3 => ev_rf mB ?_
    repeat refine dr_act wN mb ma mc mT mR ?_
    refine dr_nil (h3 _ ?_); clear h3
    refine ev_cond _ ml (fun h => absurd (of_decide_eq_true h) (by omega)) (fun h => ev_skip (h2 _ ?_)); clear h2
    refine ev_rf mB ?_
    repeat refine dr_act wN mb ma mc mT mR ?_
    refine dr_nil ⟨⟨i + 1, by omega⟩, by simp only []; omega, ?_⟩
    rw [w64p (n := wss.length) (by omega) (by omega)]
    exact weak_ren [] mK mK mD mQ
  · simp only [seqK, loopK, blkK, ↓reduceIte]
    refine h1 _ ?_; clear h1 h2
    have hge := of_decide_eq_false h
    obtain rfl : i = wss.length := by omega
    rw [List.take_length]
    refine ev_seq fun K1 h1 => ev_rf mB ?_
    repeat refine dr_act wN mb ma mc mT mR ?_
    refine dr_callF wN mr mb mx mr (c194 wss.flatten.length hw) (Nat.le_of_ble_eq_true rfl) mv mT mN ?_
    repeat refine dr_act wN mb ma mc mT mR ?_
    refine dr_nil (h1 _ ?_); clear h1 K1
    refine ev_seq fun K1 h1 => ?_
    refine ev_seq fun K2 h2 => ev_rf mB ?_
    repeat refine dr_act wN mb ma mc mT mR ?_
    refine dr_nil (h2 _ ?_); clear h2 K2
    refine ev_block (ev_loop (α := {i : Nat // i ≤ wss.length}) (fun i => ⟨[(6, .ref (48, none) 0 (wss.take i.1).flatten.length), (25, eWSS wss), (26, vi wss.length), (27, vi i.1)], [(48, rWS (wss.take i.1).flatten)], 104⟩) (fun i => wss.length - i.1) ⟨0, Nat.zero_le _⟩ (weak_ren [] mK (chkRm rfl (by decide) rfl (fun _ => rfl) (fun _ => rfl) trivial) mD mQ) (fun ⟨i, hi⟩ => ?_))
    refine ev_seq fun K2 h2 => ev_rf mB ?_
    repeat refine dr_act wN mb ma mc mT mR ?_
    refine dr_nil (h2 _ ?_); clear h2
    refine ev_seq fun K2 h2 => ?_
    refine ev_cond _ ml (fun h => ev_skip (h2 _ ?_)) (fun h => ev_exit ?_)
    · clear h1 h2
      have hlt : i < wss.length := by have := of_decide_eq_true h; omega
      have t1 := take_wl wss i
      have t2 := take_wl wss (i + 1)
      have t3 := take_ws hlt
      have t4 : (wss.take (i + 1)).flatten.length = (wss.take i).flatten.length + (wss.getD i []).length := by rw [t3, List.length_append]
      refine ev_seq fun K2 h2 => ev_block (ev_seq fun K3 h3 => ev_rf mB ?_)
      refine dr_ix ([] : List Win) wN mr mb ml ml mS (by omega) mT ?_
      repeat refine dr_act wN mb ma mc mT mR ?_
      refine dr_nil (h3 _ ?_); clear h3
      refine ev_rf mB ?_
      repeat refine dr_act wN mb ma mc mT mR ?_
      refine dr_act wN mb ma (by exact ⟨⟨rfl, rfl, rfl, (List.length_map _).symm⟩, by simp only [maxLen, List.length_map]; omega, trivial⟩) mT mR ?_
      repeat refine dr_act wN mb ma mc mT mR ?_
      refine dr_nil (h2 _ (ev_rf mB ?_)); clear h2
      repeat refine dr_act wN mb ma mc mT mR ?_
      refine dr_nil ⟨⟨i + 1, by omega⟩, by simp only []; omega, ?_⟩
      rw [w64p (n := wss.length) (by omega) (by omega), List.map_nil, List.nil_append]
      refine weak_ren [(48, 152)] ⟨⟨by rw [t4]; rfl, rfl⟩, mK⟩ (chkRm rfl (by decide) (by simp only []; rw [t3, List.map_append]) (fun _ => rfl) (fun _ => rfl) trivial) mD mQ
    · simp only [seqK, loopK, blkK, ↓reduceIte]
      refine h1 _ ?_; clear h1 h2
      have hge := of_decide_eq_false h
      obtain rfl : i = wss.length := by omega
      rw [List.take_length]
      refine ev_seq fun K1 h1 => ev_rf mB ?_
      repeat refine dr_act wN mb ma mc mT mR ?_
      refine dr_nil (h1 _ (ev_ret ?_)); clear h1
      exact retL [48] (res' := [.tmp 2]) mr (.tmp nT mL .nil) rfl mr (by decide) ⟨⟨mr, pure_map fun _ => rfl⟩, trivial⟩
end Go.Ev
namespace Go.Ev
open Go Go.RowKit Go.Proofs

abbrev oJ : Option (List Win) → V
  | some ws => .tup [oR 0 ws, vb true]
  | none => .tup [zR, vb false]
abbrev rJ : Option (List Win) → List Root
  | some ws => [rWS ws]
  | none => []
def jnd (wss : List (List Win)) : Option (List Win) := if wss.flatten.length ≤ 12 then some wss.flatten else none

theorem c126 (wss : List (List Win)) (hl : wss.length ≤ 1048576) (hw : wss.flatten.length ≤ 1048576) : Good Try.prog 126 [eWSS wss] (oJ (jnd wss)) (rJ (jnd wss)) := by
  refine good_of (E := En 13) (fn := Try.f126) (by kernel_rfl) (by kernel_rfl) rfl rfl (by simp only [List.length_cons, List.length_nil]; decide) (fun C0 => ?_)
  simp only [argT, Nat.reduceAdd]
  refine ev_seq fun K1 h1 => ev_rf mB ?_
  repeat refine dr_act wN mb ma mc mT mR ?_
  refine dr_nil (h1 _ ?_); clear h1
  refine ev_seq fun K1 h1 => ev_rf mB ?_
  repeat refine dr_act wN mb ma mc mT mR ?_
  refine dr_callF wN mr mb mx mr (c160 wss hl hw) (Nat.le_of_ble_eq_true rfl) mv mT mN ?_
  repeat refine dr_act wN mb ma mc mT mR ?_
  refine dr_nil (h1 _ ?_); clear h1
  refine ev_seq fun K1 h1 => ?_
  refine ev_seq fun K2 h2 => ev_rf mB ?_
  repeat refine dr_act wN mb ma mc mT mR ?_
  refine dr_nil (h2 _ ?_); clear h2
  refine ev_cond _ ml (fun h => ?_) (fun h => ev_skip (h1 _ ?_))
  · have e : jnd wss = none := by rw [jnd, if_neg (by have := of_decide_eq_true h; omega)]
    rw [e]
    refine ev_seq fun K2 h2 => ev_rf mB ?_
    repeat refine dr_act wN mb ma mc mT mR ?_
    refine dr_nil (h2 _ (ev_ret ?_)); clear h2 h1
    exact retL [] (res' := [.cell 2 98, .tmp 3]) mr (.cell nT mZ ma mc mP (.tmp nT mL .nil)) rfl mr (by decide) trivial
  have e : jnd wss = some wss.flatten := by rw [jnd, if_pos (by have := of_decide_eq_false h; omega)]
  clear h1 h
  rw [e]
  refine ev_seq fun K2 h2 => ev_rf mB ?_
  repeat refine dr_act wN mb ma mc mT mR ?_
  refine dr_nil (h2 _ (ev_ret ?_)); clear h2
  exact retL [24] (res' := [.cell 2 98, .tmp 3]) mr (.cell nT mZ ma mc mP (.tmp nT mL .nil)) rfl mr (by decide) ⟨⟨mr, pure_map fun _ => rfl⟩, trivial⟩

theorem lenR_take {ws : List Win} {k : Nat} (h : ∀ w, w ∈ ws → 0 ≤ w.n ∧ w.n ≤ 64) : lenR (ws.take k) ≤ lenR ws := by
  have e : lenR ws = lenR (ws.take k) + lenR (ws.drop k) := by rw [← lenR_app, List.take_append_drop]
  have := lenR_le (ws.drop k) fun w hw => h w (List.mem_of_mem_drop hw)
  omega

theorem c125 (ws : List Win) (i : Int) (h : SplOK ws i) : Good Try.prog 125 [eR ws, vi i] (.tup [.ref (0, none) 0 (splF (lenR ws) i ws 0).length, .ref (1, none) 0 (splS (lenR ws) i ws 0).length]) [rWS (splF (lenR ws) i ws 0), rWS (splS (lenR ws) i ws 0)] := by
  refine good_of (E := En 89) (fn := Try.f125) (by kernel_rfl) (by kernel_rfl) rfl rfl (by simp only [List.length_cons, List.length_nil]; decide) (fun C0 => ?_)
  have hl := h.l
  have hi0 := h.i.1
  have hi1 := h.i.2
  have hL := lenR_le ws h.b
  simp only [argT, eR, eWS]
  iterate 2
    refine ev_seq fun K1 h1 => ev_rf mB ?_
    repeat refine dr_act wN mb ma mc mT mR ?_
    refine dr_nil (h1 _ ?_); clear h1 K1
  refine ev_seq fun K1 h1 => ?_
  refine ev_seq fun K2 h2 => ev_rf mB ?_
  repeat refine dr_act wN mb ma mc mT mR ?_
  refine dr_nil (h2 _ ?_); clear h2 K2
  refine ev_block (ev_loop (α := {k : Nat // k ≤ ws.length}) (fun k => ⟨[(1, vi i), (2, .ptr (0, none) 0 0), (6, .ref (24, none) 0 (splF (lenR ws) i (ws.take k.1) 0).length), (7, .ref (32, none) 0 (splS (lenR ws) i (ws.take k.1) 0).length), (8, vi (lenR (ws.take k.1))), (15, .list 4 (ws.map cW)), (16, vi ws.length), (17, vi k.1)], [(0, ⟨98, 1, [[.list 4 (ws.map cW)]]⟩), (24, rWS (splF (lenR ws) i (ws.take k.1) 0)), (32, rWS (splS (lenR ws) i (ws.take k.1) 0))], 96⟩) (fun k => ws.length - k.1) ⟨0, Nat.zero_le _⟩ (weak_ren [] mK (chkR_cons mK (chkRm rfl (by decide) rfl (fun _ => rfl) (fun _ => rfl) (chkRm rfl (by decide) rfl (fun _ => rfl) (fun _ => rfl) trivial))) mD mQ) (fun ⟨k, hk⟩ => ?_))
  refine ev_seq fun K2 h2 => ev_rf mB ?_
  repeat refine dr_act wN mb ma mc mT mR ?_
  refine dr_nil (h2 _ ?_); clear h2
  refine ev_seq fun K2 h2 => ?_
  refine ev_cond _ ml (fun hc => ev_skip (h2 _ ?_)) (fun hc => ev_exit ?_)
  · clear h1 h2
    have hlt : k < ws.length := by have := of_decide_eq_true hc; omega
    have hf1 := splF_len (lenR ws) i (ws.take k) 0
    have hs1 := splS_len (lenR ws) i (ws.take k) 0
    have hd := lenR_le (ws.take k) fun w hw => h.b w (List.mem_of_mem_take hw)
    rw [List.length_take] at hf1 hs1 hd
    have hsf := splF_step (L := lenR ws) (i := i) hlt
    have hss := splS_step (L := lenR ws) (i := i) hlt
    have hld := lenR_step hlt
    have hle := lenR_take (k := k + 1) h.b
    have hw := h.n _ (mem_w hlt)
    have c124' := c124 ws (by omega) h.b
    generalize hfe : splF (lenR ws) i (ws.take k) 0 = f at *
    generalize hse : splS (lenR ws) i (ws.take k) 0 = s at *
    generalize hde : lenR (ws.take k) = d at *
    have w1 : IntKind.i64.wrap (d + (ws.getD k wz).n) = d + (ws.getD k wz).n := wrap_of (by omega) (by omega)
    have v1 : IntKind.i64.wrap (i - d) = i - d := wrap_of (by omega) (by omega)
    generalize hwe : ws.getD k wz = w at *
    refine ev_seq fun K2 h2 => ev_block ?_
    refine ev_seq fun K3 h3 => ev_rf mB ?_
    refine dr_ix (wz : Win) wN mr mb ml ml mS (by omega) mT ?_
    rw [Int.toNat_natCast, hwe]
    repeat refine dr_act wN mb ma mc mT mR ?_
    refine dr_nil (h3 _ ?_); clear h3
    refine ev_seq fun K3 h3 => ev_rf mB ?_
    repeat refine dr_act wN mb ma mc mT mR ?_
    rw [v1]
    refine dr_nil (h3 _ ?_); clear h3
    refine ev_cut ⟨[(1, vi i), (2, .ptr (0, none) 0 0), (6, .ref (24, none) 0 (f ++ toF (lenR ws) i d w).length), (7, .ref (32, none) 0 (s ++ toS (lenR ws) i d w).length), (8, vi d), (10, .ptr (120, none) 0 0), (15, .list 4 (ws.map cW)), (16, vi ws.length), (17, vi k)], [(0, ⟨98, 1, [[.list 4 (ws.map cW)]]⟩), (120, ⟨32, 4, [cW w]⟩), (24, rWS (f ++ toF (lenR ws) i d w)), (32, rWS (s ++ toS (lenR ws) i d w))], 3000⟩ (ev_block ?_) ?_
    · refine ev_cut ⟨[(1, vi i), (2, .ptr (0, none) 0 0), (6, .ref (24, none) 0 f.length), (7, .ref (32, none) 0 s.length), (8, vi d), (10, .ptr (120, none) 0 0), (11, vi (i - d)), (15, .list 4 (ws.map cW)), (16, vi ws.length), (17, vi k), (48, vb (decide (d + w.n ≤ i ∧ (w.n > 0 ∨ d < i ∨ i = lenR ws))))], [(0, ⟨98, 1, [[.list 4 (ws.map cW)]]⟩), (120, ⟨32, 4, [cW w]⟩), (24, rWS f), (32, rWS s)], 2000⟩ ?_ ?_
      · refine ev_cut ⟨[(1, vi i), (2, .ptr (0, none) 0 0), (6, .ref (24, none) 0 f.length), (7, .ref (32, none) 0 s.length), (8, vi d), (10, .ptr (120, none) 0 0), (11, vi (i - d)), (15, .list 4 (ws.map cW)), (16, vi ws.length), (17, vi k), (48, vb (decide (w.n = 0 ∧ (i - d > 0 ∨ i = lenR ws))))], [(0, ⟨98, 1, [[.list 4 (ws.map cW)]]⟩), (120, ⟨32, 4, [cW w]⟩), (24, rWS f), (32, rWS s)], 1000⟩ (ev_rf mB ?_) ?_
        · iterate 4 refine dr_act wN mb ma mc mT mR ?_
          cases hA : w.n == 0
          · iterate 3 refine dr_skip wG mT ?_
            iterate 4 refine dr_skip wU mT ?_
            refine dr_skip wG mT ?_
            repeat refine dr_act wN mb ma mc mT mR ?_
            rw [decide_eq_false fun h => by rw [h.1] at hA; cases hA]
            exact dr_nil (weak_ren [] mK (chkR_cons mK (chkR_cons mK (chkRm rfl (by decide) rfl (fun _ => rfl) (fun _ => rfl) (chkRm rfl (by decide) rfl (fun _ => rfl) (fun _ => rfl) trivial)))) mD mQ)
          have hA' := eq_of_beq hA
          iterate 3 refine dr_act wG mb ma mc mT mR ?_
          cases hB : decide (i - d > 0)
          · have hB' := of_decide_eq_false hB
            iterate 2 refine dr_act wG mb ma mc mT mR ?_
            refine dr_callF wG mr mb mx mr c124' (Nat.le_of_ble_eq_true rfl) mv mT mN ?_
            iterate 2 refine dr_act wG mb ma mc mT mR ?_
            repeat refine dr_act wN mb ma mc mT mR ?_
            have e : (i == lenR ws) = decide (w.n = 0 ∧ (i - d > 0 ∨ i = lenR ws)) := by
              rw [Bool.eq_iff_iff, beq_iff_eq, decide_eq_true_eq]
              exact ⟨fun h => ⟨hA', .inr h⟩, fun h => h.2.elim (fun h => absurd h hB') id⟩
            rw [e]
            exact dr_nil (weak_ren [] mK (chkR_cons mK (chkR_cons mK (chkRm rfl (by decide) rfl (fun _ => rfl) (fun _ => rfl) (chkRm rfl (by decide) rfl (fun _ => rfl) (fun _ => rfl) trivial)))) mD mQ)
          have hB' := of_decide_eq_true hB
          iterate 4 refine dr_skip wG mT ?_
          refine dr_act wG mb ma mc mT mR ?_
          repeat refine dr_act wN mb ma mc mT mR ?_
          rw [decide_eq_true ⟨hA', .inl hB'⟩]
          exact dr_nil (weak_ren [] mK (chkR_cons mK (chkR_cons mK (chkRm rfl (by decide) rfl (fun _ => rfl) (fun _ => rfl) (chkRm rfl (by decide) rfl (fun _ => rfl) (fun _ => rfl) trivial)))) mD mQ)
        · refine ev_cond _ ml (fun hA => ev_skip ?_) (fun hA => ev_rf mB ?_)
          · have hA' := of_decide_eq_true hA
            show Weak (En 89) C0 _ _
            rw [decide_eq_true hA', decide_eq_true (show d + w.n ≤ i ∧ (w.n > 0 ∨ d < i ∨ i = lenR ws) by omega)]
            exact weak_ren [] mK (chkR_cons mK (chkR_cons mK (chkRm rfl (by decide) rfl (fun _ => rfl) (fun _ => rfl) (chkRm rfl (by decide) rfl (fun _ => rfl) (fun _ => rfl) trivial)))) mD mQ
          · have hA' := of_decide_eq_false hA
            iterate 4 refine dr_act wN mb ma mc mT mR ?_
            cases hB : decide (w.n > 0)
            · have hB' := of_decide_eq_false hB
              iterate 4 refine dr_skip wG mT ?_
              repeat refine dr_act wN mb ma mc mT mR ?_
              rw [decide_eq_false (show ¬ (d + w.n ≤ i ∧ (w.n > 0 ∨ d < i ∨ i = lenR ws)) by omega)]
              exact dr_nil (weak_ren [] mK (chkR_cons mK (chkR_cons mK (chkRm rfl (by decide) rfl (fun _ => rfl) (fun _ => rfl) (chkRm rfl (by decide) rfl (fun _ => rfl) (fun _ => rfl) trivial)))) mD mQ)
            have hB' := of_decide_eq_true hB
            iterate 4 refine dr_act wG mb ma mc mT mR ?_
            repeat refine dr_act wN mb ma mc mT mR ?_
            have e : decide (i - d ≥ w.n) = decide (d + w.n ≤ i ∧ (w.n > 0 ∨ d < i ∨ i = lenR ws)) := by
              rw [decide_eq_decide]; omega
            rw [e]
            exact dr_nil (weak_ren [] mK (chkR_cons mK (chkR_cons mK (chkRm rfl (by decide) rfl (fun _ => rfl) (fun _ => rfl) (chkRm rfl (by decide) rfl (fun _ => rfl) (fun _ => rfl) trivial)))) mD mQ)
      · refine ev_cond _ ml (fun hX => ?_) (fun hX => ?_)
        · have hX' := of_decide_eq_true hX
          refine ev_rf mB ?_
          repeat refine dr_act wN mb ma mc mT mR ?_
          refine dr_act wN mb ma (by exact ⟨⟨by simp only [maxLen]; omega, by omega⟩, rfl⟩) mT mR ?_
          repeat refine dr_act wN mb ma mc mT mR ?_
          have eF : toF (lenR ws) i d w = [w] := by rw [toF, if_pos hX']
          have eS : toS (lenR ws) i d w = [] := by rw [toS, if_pos hX']
          refine dr_nil (show Weak (En 89) C0 _ _ from ?_)
          rw [eF, eS, List.append_nil, List.length_append]
          exact weak_ren [(24, 2024)] mK (chkR_cons mK (chkR_cons mK (chkRm rfl (by decide) (mapW f w) (fun _ => rfl) (fun _ => rfl) (chkRm rfl (by decide) rfl (fun _ => rfl) (fun _ => rfl) trivial)))) mD mQ
        · have hX' := of_decide_eq_false hX
          refine ev_seq fun K4 h4 => ev_rf mB ?_
          repeat refine dr_act wN mb ma mc mT mR ?_
          refine dr_nil (h4 _ ?_); clear h4
          refine ev_cond _ ml (fun hY => ?_) (fun hY => ?_)
          · have hY' := of_decide_eq_true hY
            refine ev_rf mB ?_
            repeat refine dr_act wN mb ma mc mT mR ?_
            refine dr_act wN mb ma (by exact ⟨⟨by simp only [maxLen]; omega, by omega⟩, rfl⟩) mT mR ?_
            repeat refine dr_act wN mb ma mc mT mR ?_
            have eF : toF (lenR ws) i d w = [] := by rw [toF, if_neg hX', if_pos (by omega)]
            have eS : toS (lenR ws) i d w = [w] := by rw [toS, if_neg hX', if_pos (by omega)]
            refine dr_nil (show Weak (En 89) C0 _ _ from ?_)
            rw [eF, eS, List.append_nil, List.length_append]
            exact weak_ren [(32, 2048)] mK (chkR_cons mK (chkR_cons mK (chkRm rfl (by decide) rfl (fun _ => rfl) (fun _ => rfl) (chkRm rfl (by decide) (mapW s w) (fun _ => rfl) (fun _ => rfl) trivial)))) mD mQ
          · have hY' := of_decide_eq_false hY
            have hn : i - d < w.n := Int.not_le.1 fun hh => hX' ⟨by omega, .inr (.inl (by omega))⟩
            have v2 : w64 (w.s + 0) = w.s := (wrap_of (by omega) (by omega)).trans (by omega)
            have v4 : IntKind.i64.wrap (w.s + (i - d)) = w.s + (i - d) := wrap_of (by omega) (by omega)
            have v5 : IntKind.i64.wrap (w.n - (i - d)) = w.n - (i - d) := wrap_of (by omega) (by omega)
            have v6 : IntKind.i64.wrap (w.c - (i - d)) = w.c - (i - d) := wrap_of (by omega) (by omega)
            have k1 := c159 w 0 (i - d)
            rw [v2] at k1
            refine ev_seq fun K4 h4 => ev_rf mB ?_
            repeat refine dr_act wN mb ma mc mT mR ?_
            refine dr_callF wN mr mb mx mr k1 (Nat.le_of_ble_eq_true rfl) mv mT mN ?_
            repeat refine dr_act wN mb ma mc mT mR ?_
            refine dr_act wN mb ma (by exact ⟨⟨by simp only [maxLen]; omega, by omega⟩, rfl⟩) mT mR ?_
            repeat refine dr_act wN mb ma mc mT mR ?_
            refine dr_nil (h4 _ ?_); clear h4
            refine ev_rf mB ?_
            repeat refine dr_act wN mb ma mc mT mR ?_
            rw [v4, v5, v6]
            refine dr_act wN mb ma (by exact ⟨⟨by simp only [maxLen]; omega, by omega⟩, rfl⟩) mT mR ?_
            repeat refine dr_act wN mb ma mc mT mR ?_
            have eF : toF (lenR ws) i d w = [⟨w.a, w.s, i - d, i - d⟩] := by rw [toF, if_neg hX', if_neg (by omega)]
            have eS : toS (lenR ws) i d w = [⟨w.a, w.s + (i - d), w.n - (i - d), w.c - (i - d)⟩] := by rw [toS, if_neg hX', if_neg (by omega)]
            refine dr_nil (show Weak (En 89) C0 _ _ from ?_)
            rw [eF, eS, List.length_append, List.length_append]
            exact weak_ren [(24, 2064), (32, 2216)] mK (chkR_cons mK (chkR_cons mK (chkRm rfl (by decide) (mapW f ⟨w.a, w.s, i - d, i - d⟩) (fun _ => rfl) (fun _ => rfl) (chkRm rfl (by decide) (mapW s ⟨w.a, w.s + (i - d), w.n - (i - d), w.c - (i - d)⟩) (fun _ => rfl) (fun _ => rfl) trivial)))) mD mQ
    · refine ev_rf mB ?_
      repeat refine dr_act wN mb ma mc mT mR ?_
      rw [w1]
      refine dr_nil (h2 _ (ev_rf mB ?_)); clear h2
      repeat refine dr_act wN mb ma mc mT mR ?_
      refine dr_nil ⟨⟨k + 1, by omega⟩, by simp only []; omega, ?_⟩
      rw [w64p (n := ws.length) (by omega) (by omega), ← hld, ← hsf, ← hss]
      exact weak_ren [] mK (chkR_cons mK (chkRm rfl (by decide) rfl (fun _ => rfl) (fun _ => rfl) (chkRm rfl (by decide) rfl (fun _ => rfl) (fun _ => rfl) trivial))) mD mQ
  · simp only [seqK, loopK, blkK, ↓reduceIte]
    refine h1 _ ?_; clear h1 h2
    have hge := of_decide_eq_false hc
    obtain rfl : k = ws.length := by omega
    simp only [List.take_length]
    refine ev_seq fun K1 h1 => ev_rf mB ?_
    repeat refine dr_act wN mb ma mc mT mR ?_
    refine dr_nil (h1 _ (ev_ret ?_)); clear h1
    exact retL [24, 32] (res' := [.tmp 4, .tmp 5]) mr (.tmp nT mL (.tmp nT mL .nil)) rfl mr (by decide) ⟨⟨mr, okRW⟩, ⟨mr, okRW⟩, trivial⟩
end Go.Ev
namespace Go.Ev
open Go Go.RowKit Go.Proofs

theorem fWSS {R : Rs} {n : Nat} {wss : List (List Win)} {k : Nat} (h : R n = some ⟨82, 1, wss.map fun ws => [.row 4 (ws.map cW)]⟩) (hk : k = wss.length) : FrzC R (.ref (n, none) 0 k) (eWSS wss) :=
  .ref (act_of h) (cut_all (by rw [hk, List.length_map])) (frzE_map (fun ws => .cons (.row (by rw [List.all_map]; exact List.all_eq_true.2 fun w _ => rfl)) .nil) wss)

theorem okNW {ws : List Win} : (ws.map cW).all (fun x => x.all notRow) = true := by
  rw [List.all_map]; exact List.all_eq_true.2 fun w _ => rfl

theorem jnd2 (f s : List Win) : jnd [f, s] = if (f ++ s).length ≤ 12 then some (f ++ s) else none := by simp [jnd]
theorem jnd3 (f o s : List Win) : jnd [f, o, s] = if (f ++ o ++ s).length ≤ 12 then some (f ++ o ++ s) else none := by simp [jnd, List.append_assoc]
theorem wrM_new {m : List (List Int)} {xs : List Int} : wrM (m ++ [List.replicate xs.length 0]) m.length 0 xs = m ++ [xs] := by
  have : (m ++ [List.replicate xs.length (0 : Int)]).getD m.length [] = List.replicate xs.length 0 := by rw [List.getD_eq_getElem?_getD, List.getElem?_concat_length]; rfl
  rw [wrM, this, List.set_append_right _ _ (Nat.le_refl _), Nat.sub_self]
  simp [ovr]

theorem c60 (m : List (List Int)) (ws : List Win) (i : Int) (xs : List Int) (hl1 : m.length ≤ 1048576) (hl2 : ∀ r, r ∈ m → r.length ≤ 1048576) (hw : ws.length ≤ 1048576) (hx : xs.length ≤ 1048576) :
    Good Try.prog 60 [eMem m, eR ws, vi i, eB xs] (oMR (insR m ws i xs)) (rMR (insR m ws i xs)) := by
  refine good_of (E := En 93) (fn := Try.f60) (by kernel_rfl) (by kernel_rfl) rfl rfl (by simp only [List.length_cons, List.length_nil]; decide) (fun C0 => ?_)
  simp only [argT, Nat.reduceAdd, eB]
  refine ev_seq fun K1 h1 => ev_rf mB ?_
  repeat refine dr_act wN mb ma mc mT mR ?_
  refine dr_nil (h1 _ ?_); clear h1
  refine ev_seq fun K1 h1 => ?_
  refine ev_cut ⟨[(2, vi i), (3, .list 1 (xs.map cB)), (4, .ptr (0, none) 0 0), (5, .ptr (8, none) 0 0), (8, .ptr (16, none) 0 0), (9, .ptr (24, none) 0 0), (10, vb false), (35, vb (decide (¬ cutR m ws i = true ∨ 64 < xs.length)))], [(0, ⟨31, 1, [[eM m]]⟩), (8, ⟨98, 1, [[eWS ws]]⟩), (16, ⟨31, 1, [[.val (.slice none 0 0)]]⟩), (24, ⟨98, 1, [[.val (.slice none 0 0)]]⟩)], 400⟩ (ev_rf mB ?_) ?_
  · iterate 2 refine dr_act wN mb ma mc mT mR ?_
    refine dr_callF wN mr mb mx mr (c122 m ws hl1 hl2 hw) (Nat.le_of_ble_eq_true rfl) mv mT mN ?_
    cases hR : okR m ws
    · repeat refine dr_act wN mb ma mc mT mR ?_
      iterate 5 refine dr_skip wG mT ?_
      repeat refine dr_act wN mb ma mc mT mR ?_
      iterate 3 refine dr_skip wG mT ?_
      repeat refine dr_act wN mb ma mc mT mR ?_
      rw [decide_eq_true (.inl fun h => by simp [cutR, hR] at h)]
      exact dr_nil (show Weak (En 93) C0 _ _ from weak_ren [] mK mK mD mQ)
    repeat refine dr_act wN mb ma mc mT mR ?_
    iterate 2 refine dr_act wG mb ma mc mT mR ?_
    refine dr_callF wG mr mb mx mr (c124 ws hw (okR_n hR)) (Nat.le_of_ble_eq_true rfl) mv mT mN ?_
    refine dr_callF wG mr mb mx mr (c123 i 0 (lenR ws)) (Nat.le_of_ble_eq_true rfl) mv mT mN ?_
    have hC : cutR m ws i = decide (0 ≤ i ∧ i ≤ lenR ws) := by rw [cutR, hR, Bool.true_and]
    rw [hC]
    cases hI : decide (0 ≤ i ∧ i ≤ lenR ws)
    · refine dr_act wG mb ma mc mT mR ?_
      repeat refine dr_act wN mb ma mc mT mR ?_
      iterate 3 refine dr_skip wG mT ?_
      repeat refine dr_act wN mb ma mc mT mR ?_
      rw [decide_eq_true (.inl fun h => by cases h)]
      exact dr_nil (show Weak (En 93) C0 _ _ from weak_ren [] mK mK mD mQ)
    refine dr_act wG mb ma mc mT mR ?_
    repeat refine dr_act wN mb ma mc mT mR ?_
    iterate 3 refine dr_act wG mb ma mc mT mR ?_
    repeat refine dr_act wN mb ma mc mT mR ?_
    have e : decide (((xs.length : Nat) : Int) > 64) = decide (¬ true = true ∨ 64 < xs.length) := by rw [decide_eq_decide]; simp; omega
    rw [e]
    exact dr_nil (show Weak (En 93) C0 _ _ from weak_ren [] mK mK mD mQ)
  refine ev_cond _ ml (fun h => ?_) (fun h => ev_skip (h1 _ ?_))
  · have h := of_decide_eq_true h
    have e : insR m ws i xs = none := by
      rw [insR]; split
      · rename_i hC
        have h64 : 64 < xs.length := h.elim (fun h => absurd hC h) id
        rw [newM, if_neg (by omega), if_pos (.inl h64)]
      · rfl
    rw [e]
    refine ev_seq fun K2 h2 => ev_rf mB ?_
    repeat refine dr_act wN mb ma mc mT mR ?_
    refine dr_nil (h2 _ (ev_ret ?_)); clear h2 h1
    exact retL [] (res' := [.cell 8 31, .cell 9 98, .tmp 10]) mr (.cell nT mZ ma mc mP (.cell nT mZ ma mc mP (.tmp nT mL .nil))) rfl mr (by decide) trivial
  have h := of_decide_eq_false h
  have hC : cutR m ws i = true := by
    cases e : cutR m ws i with
    | true => rfl
    | false => exact absurd (.inl (by rw [e]; exact Bool.false_ne_true)) h
  have h64 : xs.length ≤ 64 := Nat.not_lt.1 fun h' => h (.inr h')
  clear h1 h K1
  have hsp := cutR_ok hC
  have hl := hsp.l
  have k125 := c125 ws i hsp
  have hf1 := splF_len (lenR ws) i ws 0
  have hs1 := splS_len (lenR ws) i ws 0
  have hI : insR m ws i xs = match newM m xs with
    | none => none
    | some (m', own) => if (splF (lenR ws) i ws 0 ++ own ++ splS (lenR ws) i ws 0).length ≤ 12 then some (m', splF (lenR ws) i ws 0 ++ own ++ splS (lenR ws) i ws 0) else none := by rw [insR, if_pos hC] <;> rfl
  generalize splF (lenR ws) i ws 0 = f at *
  generalize splS (lenR ws) i ws 0 = s at *
  refine ev_seq fun K1 h1 => ev_rf mB ?_
  repeat refine dr_act wN mb ma mc mT mR ?_
  refine dr_callF wN mr mb mx mr k125 (Nat.le_of_ble_eq_true rfl) mv mT mN ?_
  repeat refine dr_act wN mb ma mc mT mR ?_
  refine dr_nil (h1 _ ?_); clear h1
  refine ev_seq fun K1 h1 => ?_
  refine ev_seq fun K2 h2 => ev_rf mB ?_
  repeat refine dr_act wN mb ma mc mT mR ?_
  refine dr_nil (h2 _ ?_); clear h2
  refine ev_cond _ ml (fun h => ?_) (fun h => ev_skip (h1 _ ?_))
  · have h0 : xs.length = 0 := by have : (xs.length : Int) = 0 := by simpa using h
                                  omega
    clear h1
    have e : newM m xs = some (m, []) := by rw [newM, if_pos h0]
    rw [e] at hI
    simp only [List.append_nil] at hI
    have hc := c126 [f, s] (by simp) (by simp; omega)
    refine ev_seq fun K2 h2 => ev_rf mB ?_
    repeat refine dr_act wN mb ma mc mT mR ?_
    refine dr_act wN mb ma (by exact ⟨⟨rfl, by decide, by simp⟩, ⟨okNW, okNW⟩, by decide⟩) mT mR ?_
    rcases hj : jnd [f, s] with _ | j
    · rw [hj] at hc
      have hI' : insR m ws i xs = none := by
        rw [jnd2] at hj; rw [hI]
        split at hj
        · cases hj
        · rw [if_neg (by assumption)]
      rw [hI'] at h2 ⊢
      refine dr_call wN mr mb mx (.cons (.cell (fWSS (wss := [f, s]) mr rfl)) .nil) hc (Nat.le_of_ble_eq_true rfl) mv mT mN ?_
      repeat refine dr_act wN mb ma mc mT mR ?_
      refine dr_nil (h2 _ ?_); clear h2
      refine ev_seq fun K2 h2 => ?_
      refine ev_seq fun K3 h3 => ev_rf mB ?_
      repeat refine dr_act wN mb ma mc mT mR ?_
      refine dr_nil (h3 _ ?_); clear h3
      refine ev_cond true mlq (fun h => ?_) (fun h => by cases h)
      refine ev_seq fun K3 h3 => ev_rf mB ?_
      repeat refine dr_act wN mb ma mc mT mR ?_
      refine dr_nil (h3 _ (ev_ret ?_)); clear h3 h2
      exact retL [] (res' := [.cell 8 31, .cell 9 98, .tmp 10]) mr (.cell nT mZ ma mc mP (.cell nT mZ ma mc mP (.tmp nT mL .nil))) rfl mr (by decide) trivial
    rw [hj] at hc
    have hI' : insR m ws i xs = some (m, j) := by
      rw [jnd2] at hj; rw [hI]
      split at hj
      · rw [if_pos (by assumption), Option.some.inj hj]
      · cases hj
    rw [hI'] at h2 ⊢
    refine dr_call wN mr mb mx (.cons (.cell (fWSS (wss := [f, s]) mr rfl)) .nil) hc (Nat.le_of_ble_eq_true rfl) mv mT mN ?_
    repeat refine dr_act wN mb ma mc mT mR ?_
    refine dr_nil (h2 _ ?_); clear h2
    refine ev_seq fun K2 h2 => ?_
    refine ev_seq fun K3 h3 => ev_rf mB ?_
    repeat refine dr_act wN mb ma mc mT mR ?_
    refine dr_nil (h3 _ ?_); clear h3
    refine ev_cond false mlq (fun h => by cases h) (fun h => ev_skip (h2 _ ?_)); clear h2
    refine ev_seq fun K2 h2 => ev_reg mB ?_
    repeat refine dr_act wN mb ma mc mT mR ?_
    refine dr_callF wN mr mb mx mr (c127 m hl1 hl2) (Nat.le_of_ble_eq_true rfl) mv mT mN ?_
    repeat refine dr_act wN mb ma mc mT mR ?_
    refine dr_nil ⟨fun _ => by kernel_rfl, h2 _ (ev_ret ?_)⟩; clear h2
    exact retL [592, 512] (res' := [.cell 8 31, .cell 9 98, .tmp 10]) mr (.cell nT mZ ma mc mP (.cell nT mZ ma mc mP (.tmp nT mL .nil))) rfl mr (by decide) ⟨⟨mr, okRM⟩, ⟨mr, okRW⟩, trivial⟩
  have h0 : ¬ xs.length = 0 := fun e => by
    have : ¬ (xs.length : Int) = 0 := by simpa using h
    omega
  clear h1 h
  have hM : okM m = true := by
    simp only [cutR, okR, Bool.and_eq_true] at hC
    exact hC.1.1.1
  have hnw : nwM m xs.length = if m.length = 16 then none else some (m ++ [List.replicate xs.length 0], ⟨m.length, 0, xs.length, xs.length⟩) := by
    rw [nwM]
    by_cases h16 : m.length = 16
    · rw [if_pos h16, if_neg (fun h => h.2.2 h16)]
    · rw [if_neg h16, if_pos ⟨hM, by omega, h16⟩]; rfl
  have k128 := c128 m xs.length hl1 hl2
  rw [hnw] at k128
  refine ev_seq fun K1 h1 => ev_rf mB ?_
  repeat refine dr_act wN mb ma mc mT mR ?_
  by_cases h16 : m.length = 16
  · rw [if_pos h16] at k128
    have e : insR m ws i xs = none := by rw [hI, newM, if_neg h0, if_pos (.inr h16)]
    rw [e] at h1 ⊢
    refine dr_callF wN mr mb mx mr k128 (Nat.le_of_ble_eq_true rfl) mv mT mN ?_
    repeat refine dr_act wN mb ma mc mT mR ?_
    refine dr_nil (h1 _ ?_); clear h1
    refine ev_seq fun K1 h1 => ev_rf mB ?_
    repeat refine dr_act wN mb ma mc mT mR ?_
    refine dr_act wN mb ma (by refine ⟨⟨rfl, by decide, by simp⟩, ?_, by decide⟩; (repeat' apply And.intro) <;> first | exact okNW | trivial | rfl) mT mR ?_
    have hc := c126 [f, [wz], s] (by simp) (by simp; omega)
    rcases hj : jnd [f, [wz], s] with _ | j
    · rw [hj] at hc
      refine dr_call wN mr mb mx (.cons (.cell (fWSS (wss := [f, [wz], s]) mr rfl)) .nil) hc (Nat.le_of_ble_eq_true rfl) mv mT mN ?_
      repeat refine dr_act wN mb ma mc mT mR ?_
      refine dr_nil (h1 _ ?_); clear h1
      refine ev_seq fun K1 h1 => ?_
      refine ev_seq fun K2 h2 => ev_rf mB ?_
      repeat refine dr_act wN mb ma mc mT mR ?_
      iterate 2 refine dr_skip wG mT ?_
      repeat refine dr_act wN mb ma mc mT mR ?_
      refine dr_nil (h2 _ ?_); clear h2
      refine ev_cond true mlq (fun h => ?_) (fun h => by cases h)
      refine ev_seq fun K3 h3 => ev_rf mB ?_
      repeat refine dr_act wN mb ma mc mT mR ?_
      refine dr_nil (h3 _ (ev_ret ?_)); clear h3 h1
      exact retL [] (res' := [.cell 8 31, .cell 9 98, .tmp 10]) mr (.cell nT mZ ma mc mP (.cell nT mZ ma mc mP (.tmp nT mL .nil))) rfl mr (by decide) trivial
    · rw [hj] at hc
      refine dr_call wN mr mb mx (.cons (.cell (fWSS (wss := [f, [wz], s]) mr rfl)) .nil) hc (Nat.le_of_ble_eq_true rfl) mv mT mN ?_
      repeat refine dr_act wN mb ma mc mT mR ?_
      refine dr_nil (h1 _ ?_); clear h1
      refine ev_seq fun K1 h1 => ?_
      refine ev_seq fun K2 h2 => ev_rf mB ?_
      repeat refine dr_act wN mb ma mc mT mR ?_
      iterate 2 refine dr_skip wG mT ?_
      repeat refine dr_act wN mb ma mc mT mR ?_
      refine dr_nil (h2 _ ?_); clear h2
      refine ev_cond true mlq (fun h => ?_) (fun h => by cases h)
      refine ev_seq fun K3 h3 => ev_rf mB ?_
      repeat refine dr_act wN mb ma mc mT mR ?_
      refine dr_nil (h3 _ (ev_ret ?_)); clear h3 h1
      exact retL [] (res' := [.cell 8 31, .cell 9 98, .tmp 10]) mr (.cell nT mZ ma mc mP (.cell nT mZ ma mc mP (.tmp nT mL .nil))) rfl mr (by decide) trivial
  rw [if_neg h16] at k128
  have hnm : newM m xs = some (m ++ [xs], [⟨m.length, 0, xs.length, xs.length⟩]) := by rw [newM, if_neg h0, if_neg (by omega)]
  rw [hnm] at hI
  simp only [] at hI
  have hc := c126 [f, [⟨m.length, 0, xs.length, xs.length⟩], s] (by simp) (by simp; omega)
  refine dr_callF wN mr mb mx mr k128 (Nat.le_of_ble_eq_true rfl) mv mT mN ?_
  repeat refine dr_act wN mb ma mc mT mR ?_
  refine dr_nil (h1 _ ?_); clear h1
  refine ev_seq fun K1 h1 => ev_rf mB ?_
  repeat refine dr_act wN mb ma mc mT mR ?_
  refine dr_act wN mb ma (by refine ⟨⟨rfl, by decide, by simp⟩, ?_, by decide⟩; (repeat' apply And.intro) <;> first | exact okNW | trivial | rfl) mT mR ?_
  rcases hj : jnd [f, [⟨m.length, 0, xs.length, xs.length⟩], s] with _ | j
  · rw [hj] at hc
    have hI' : insR m ws i xs = none := by
      rw [jnd3] at hj; rw [hI]
      split at hj
      · cases hj
      · rw [if_neg (by assumption)]
    rw [hI'] at h1 ⊢
    refine dr_call wN mr mb mx (.cons (.cell (fWSS (wss := [f, [⟨m.length, 0, xs.length, xs.length⟩], s]) mr rfl)) .nil) hc (Nat.le_of_ble_eq_true rfl) mv mT mN ?_
    repeat refine dr_act wN mb ma mc mT mR ?_
    refine dr_nil (h1 _ ?_); clear h1
    refine ev_seq fun K1 h1 => ?_
    refine ev_seq fun K2 h2 => ev_rf mB ?_
    repeat refine dr_act wN mb ma mc mT mR ?_
    iterate 2 refine dr_act wG mb ma mc mT mR ?_
    repeat refine dr_act wN mb ma mc mT mR ?_
    refine dr_nil (h2 _ ?_); clear h2
    refine ev_cond true mlq (fun h => ?_) (fun h => by cases h)
    refine ev_seq fun K3 h3 => ev_rf mB ?_
    repeat refine dr_act wN mb ma mc mT mR ?_
    refine dr_nil (h3 _ (ev_ret ?_)); clear h3 h1
    exact retL [] (res' := [.cell 8 31, .cell 9 98, .tmp 10]) mr (.cell nT mZ ma mc mP (.cell nT mZ ma mc mP (.tmp nT mL .nil))) rfl mr (by decide) trivial
  rw [hj] at hc
  have hI' : insR m ws i xs = some (m ++ [xs], j) := by
    rw [jnd3] at hj; rw [hI]
    split at hj
    · rw [if_pos (by assumption), Option.some.inj hj]
    · cases hj
  rw [hI'] at h1 ⊢
  refine dr_call wN mr mb mx (.cons (.cell (fWSS (wss := [f, [⟨m.length, 0, xs.length, xs.length⟩], s]) mr rfl)) .nil) hc (Nat.le_of_ble_eq_true rfl) mv mT mN ?_
  repeat refine dr_act wN mb ma mc mT mR ?_
  refine dr_nil (h1 _ ?_); clear h1
  refine ev_seq fun K1 h1 => ?_
  refine ev_seq fun K2 h2 => ev_rf mB ?_
  repeat refine dr_act wN mb ma mc mT mR ?_
  iterate 2 refine dr_act wG mb ma mc mT mR ?_
  repeat refine dr_act wN mb ma mc mT mR ?_
  refine dr_nil (h2 _ ?_); clear h2
  refine ev_cond false mlq (fun h => by cases h) (fun h => ev_skip (h1 _ ?_)); clear h1
  refine ev_seq fun K1 h1 => ev_rf mB ?_
  repeat refine dr_act wN mb ma mc mT mR ?_
  have hfit : Fits (m ++ [List.replicate xs.length 0]) ⟨m.length, 0, xs.length, xs.length⟩ := by
    have e : (m ++ [List.replicate xs.length (0 : Int)]).getD m.length [] = List.replicate xs.length 0 := by rw [List.getD_eq_getElem?_getD, List.getElem?_concat_length]; rfl
    refine ⟨by simp, by simp; omega, by simp, by simp, ?_, ?_⟩ <;> simp only [Int.toNat_natCast, e, List.length_replicate] <;> omega
  refine dr_callR [512] [] wN mr mb mx (c107 (m ++ [List.replicate xs.length 0]) ⟨m.length, 0, xs.length, xs.length⟩ hfit (wrap_of (by simp only []; omega) (by simp only []; omega))) (.ren rfl rfl (.ren rfl rfl .nil)) (hand1 mr) ⟨⟨by decide, nz⟩, Nat.le_of_ble_eq_true rfl⟩ (v := .ref (512, some (((m.length : Nat) : Int).toNat, 0)) ((0 : Int)).toNat ((xs.length : Nat) : Int).toNat) rfl mT (wr1.trans mRd) ?_
  simp only [Int.toNat_natCast, Int.toNat_zero]
  repeat refine dr_act wN mb ma mc mT mR ?_
  refine dr_cpr xs wN mr mb ml mr (by simp) (by simp only [En_nt, lookO, lookT, Nat.reduceEqDiff, Nat.reduceLT, ↓reduceIte]; rfl) mS (Nat.le_refl _) mT mRd fun z => ?_
  rw [wrM_new]
  refine dr_nil (h1 _ ?_); clear h1
  refine ev_seq fun K1 h1 => ev_reg mB ?_
  repeat refine dr_act wN mb ma mc mT mR ?_
  refine dr_nil ⟨fun _ => by kernel_rfl, h1 _ (ev_ret ?_)⟩; clear h1
  exact retL [512, 632] (res' := [.cell 8 31, .cell 9 98, .tmp 10]) mr (.cell nT mZ ma mc mP (.cell nT mZ ma mc mP (.tmp nT mL .nil))) (by simp only [oMR, oM, List.length_append, List.length_cons, List.length_nil]; rfl) mr (by decide) ⟨⟨mr, okRM⟩, ⟨mr, okRW⟩, trivial⟩
end Go.Ev
namespace Go.Ev
open Go Go.RowKit Go.Proofs

/-- A result that is nil in one more cell is an empty slice of an empty root. -/
theorem good_nilY {P : Program} {f : FuncId} {args : List V} {v v2 : V} {rs : List Root} {ty sz : Nat} (h : Good P f args v rs) (hv : ∀ (C : Cx) (u : Value), Ext C (mkCx C C.w [] rs.length ⟨ty, sz, []⟩ fun _ => none) → VR C u v → VR (mkCx C C.w [] rs.length ⟨ty, sz, []⟩ fun _ => none) u v2) : Good P f args v2 (rs ++ [⟨ty, sz, []⟩]) := by
  refine ⟨h.1, fun w F vals hF hl hw => (h.2 w F vals hF hl hw).mono ?_⟩
  rintro e w' ⟨v', C', rfl, rfl, hS, hR, hV, hB, hFn, hO, hA, hN⟩
  obtain ⟨S1, E1, F1⟩ := empty_ok (b := rs.length) (ty := ty) (sz := sz) hS (fun h => absurd (hA _ h) (Nat.lt_irrefl _))
  refine ⟨v', _, rfl, ?_, S1, ?_, hv C' v' E1 hV, hB, hFn, fun k hk => ?_, fun k hk => ?_, fun r hr => ?_⟩
  · rfl
  · show (fun n => if n = rs.length then some (Root.mk ty sz []) else if n ∈ [] then none else C'.R n) = _
    funext n
    rw [hR]
    by_cases e : n = rs.length
    · subst e; rw [if_pos rfl, List.getElem?_concat_length]
    · rw [if_neg e, if_neg (by simp)]
      by_cases l : n < rs.length
      · rw [List.getElem?_append_left l]
      · show rs[n]? = (rs ++ [Root.mk ty sz []])[n]?
        rw [List.getElem?_eq_none (Nat.le_of_not_lt l), List.getElem?_eq_none (by rw [List.length_append]; simp only [List.length_cons, List.length_nil]; omega)]
  · rcases F1.own k hk with h1 | h1
    · exact hO k h1
    · exact Nat.le_trans hB.size h1
  · rw [List.length_append]
    rcases hk with h1 | rfl
    · have := hA k h1; simp only [List.length_cons, List.length_nil]; omega
    · simp
  · rcases List.mem_append.1 hr with h1 | h1
    · exact hN r h1
    · simp only [List.mem_singleton] at h1
      subst h1
      rfl

theorem fBr {R : Rs} {n ty k : Nat} {xs : List Int} (h : R n = some (rB ty xs)) (hk : k = xs.length) : FrzC R (.ref (n, none) 0 k) (eB xs) :=
  fB (act_of h) (by rw [hk, List.drop_zero, List.take_length])

theorem nil_agg {C : Cx} {b ty sz : Nat} {v : Value} (hv : VR C v (.agg [.val (.slice none 0 0)])) : VR (mkCx C C.w [] b ⟨ty, sz, []⟩ fun _ => none) v (.agg [.ref (b, none) 0 0]) := by
  obtain ⟨us, rfl, k1, k2⟩ := hv.agg_inv
  refine .agg k1 (fun j u' c' m1 m2 => ?_)
  cases j with
  | succ j => simp at m2
  | zero =>
    simp only [List.getElem?_cons_zero, Option.some.injEq] at m2
    subst m2
    exact empty_ref (k2 0 u' _ m1 rfl)

theorem tup_map {C C' : Cx} {v : Value} {us us' : List V} (hv : VR C v (.tup us)) (hl : us'.length = us.length) (h : ∀ (i : Nat) u c c', us[i]? = some c → us'[i]? = some c' → VR C u c → VR C' u c') : VR C' v (.tup us') := by
  obtain ⟨vs, rfl, h1, h2⟩ := hv.tup_inv
  refine .tup (by rw [h1, hl]) (fun i u c h3 h4 => ?_)
  have hi := (List.getElem?_eq_some_iff.1 h4).1
  have e : us[i]? = some us[i] := List.getElem?_eq_getElem (by omega)
  exact h i u _ c e h4 (h2 i u _ h3 e)

theorem good_nilMR {P : Program} {f : FuncId} {args : List V} (h : Good P f args (.tup [zM, zR, vb false]) []) : Good P f args (.tup [oM 0 [], oR 1 [], vb false]) [rM [], rWS []] := by
  have h1 : Good P f args (.tup [oM 0 [], zR, vb false]) [rM []] := good_nilY (rs := []) h fun C u he hu => tup_map hu rfl fun i u c c' e1 e2 hc => by
    match i, e1, e2 with
    | 0, e1, e2 => cases e1; cases e2; exact nil_agg hc
    | 1, e1, e2 => cases e1; cases e2; exact hc.ext he
    | 2, e1, e2 => cases e1; cases e2; exact hc.ext he
    | i + 3, e1, e2 => simp at e1
  exact good_nilY (rs := [rM []]) h1 fun C u he hu => tup_map hu rfl fun i u c c' e1 e2 hc => by
    match i, e1, e2 with
    | 0, e1, e2 => cases e1; cases e2; exact hc.ext he
    | 1, e1, e2 => cases e1; cases e2; exact nil_agg hc
    | 2, e1, e2 => cases e1; cases e2; exact hc.ext he
    | i + 3, e1, e2 => simp at e1

def uMR : Option (List (List Int) × List Win) → List (List Int) × List Win × Bool
  | some (m, ws) => (m, ws, true)
  | none => ([], [], false)

theorem uniI {P : Program} {f : FuncId} {args : List V} {o : Option (List (List Int) × List Win)} (h : Good P f args (oMR o) (rMR o)) : Good P f args (.tup [oM 0 (uMR o).1, oR 1 (uMR o).2.1, vb (uMR o).2.2]) [rM (uMR o).1, rWS (uMR o).2.1] := by
  cases o with
  | none => exact good_nilMR h
  | some x => obtain ⟨m, ws⟩ := x; exact h

theorem insR_ok (m : List (List Int)) (ws : List Win) (i : Int) (xs : List Int) : GM (uMR (insR m ws i xs)).1 ∧ (uMR (insR m ws i xs)).2.1.length ≤ 12 := by
  have hz : GM (uMR none).1 ∧ (uMR none).2.1.length ≤ 12 := ⟨⟨Nat.zero_le _, fun r hr => by simp [uMR] at hr, fun r hr => by simp [uMR] at hr⟩, Nat.zero_le _⟩
  unfold insR
  split
  · rename_i hC
    have hM : okM m = true := by
      simp only [cutR, okR, Bool.and_eq_true] at hC
      exact hC.1.1.1
    have hg := okM_GM hM
    split
    · exact hz
    · rename_i m' own hn
      have hm' : GM m' := by
        unfold newM at hn
        split at hn
        · simp only [Option.some.injEq, Prod.mk.injEq] at hn
          rw [← hn.1]; exact hg
        · split at hn
          · cases hn
          · simp only [Option.some.injEq, Prod.mk.injEq] at hn
            rw [← hn.1]
            have := hg.l
            refine ⟨by simp; omega, fun r hr => ?_, fun r hr => ?_⟩ <;> rcases List.mem_append.1 hr with h | h
            · exact hg.r r h
            · simp only [List.mem_singleton] at h; subst h; omega
            · exact hg.p r h
            · simp only [List.mem_singleton] at h; subst h; omega
      split
      · rename_i hl
        exact ⟨hm', hl⟩
      · exact hz
  · exact hz

theorem szWS_le {ws : List Win} {k : Int} (h0 : 0 ≤ k) (h : 0 ≤ szWS ws k) : (ws.length : Int) ≤ k := by
  unfold szWS at h
  split at h <;> omega
end Go.Ev
