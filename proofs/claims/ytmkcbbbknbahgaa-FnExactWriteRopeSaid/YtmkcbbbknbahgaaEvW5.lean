/- Part 5 of the proof: the evaluator and the contracts of functions. -/
import Derived.Below
import Derived.KernelRfl
import Derived.Laws.AppendOwn
import Derived.Laws.CopyRow
import Derived.Laws.Entries
import Derived.Laws.IdiomCopy
import Derived.Laws.MakeOwn
import Derived.Laws.OwnMore
import Derived.Orders
import Derived.Test.YtmkcbbbknbahgaaProg
import Derived.Test.YtmkcbbbknbahgaaEvW4
set_option linter.unusedVariables false
set_option linter.unusedSimpArgs false
namespace Go.Ev
open Go Go.RowKit Go.Proofs

theorem c204 (m : List (List Int)) (a : Int) (hl : m.length ≤ 1048576) : Good Try.prog 204 [eMem m, vi a] (vb (decide (0 ≤ a ∧ a ≤ (m.length : Nat) - 1))) [] := by
  refine good_of (E := En 11) (fn := Try.f204) (by kernel_rfl) (by kernel_rfl) rfl rfl (by simp only [List.length_cons, List.length_nil]; decide) (fun C0 => ?_)
  have w1 : IntKind.i64.wrap ((m.length : Nat) - 1) = (m.length : Nat) - 1 := wrap_of (by omega) (by omega)
  simp only [argT, Nat.reduceAdd]
  refine ev_seq fun K1 h1 => ev_rf mB ?_
  repeat refine dr_act wN mb ma mc mT mR ?_
  refine dr_nil (h1 _ ?_); clear h1 K1
  refine ev_seq fun K1 h1 => ev_rf mB ?_
  repeat refine dr_act wN mb ma mc mT mR ?_
  rw [w1]
  refine dr_callF wN mr mb mx mr (c123 a 0 _) (Nat.le_of_ble_eq_true rfl) mv mT mN ?_
  repeat refine dr_act wN mb ma mc mT mR ?_
  refine dr_nil (h1 _ (ev_ret ?_)); clear h1
  exact retT [4] (hv := rfl)

def hasW (m : List (List Int)) (w : Win) : Bool :=
  decide (0 ≤ w.a ∧ w.a ≤ (m.length : Nat) - 1) && decide (0 ≤ w.c ∧ w.c ≤ 64) && decide (0 ≤ w.n ∧ w.n ≤ w.c) && decide (0 ≤ w.s ∧ w.s ≤ (m.getD w.a.toNat []).length - w.c)

theorem c188 (m : List (List Int)) (w : Win) (hl1 : m.length ≤ 1048576) (hl2 : ∀ r, r ∈ m → r.length ≤ 1048576) : Good Try.prog 188 [eMem m, eW w] (vb (hasW m w)) [] := by
  refine good_of (E := En 36) (fn := Try.f188) (by kernel_rfl) (by kernel_rfl) rfl rfl (by simp only [List.length_cons, List.length_nil]; decide) (fun C0 => ?_)
  simp only [argT, Nat.reduceAdd]
  refine ev_seq fun K1 h1 => ev_rf mB ?_
  repeat refine dr_act wN mb ma mc mT mR ?_
  refine dr_nil (h1 _ ?_); clear h1 K1
  refine ev_seq fun K1 h1 => ev_reg mB ?_
  repeat refine dr_act wN mb ma mc mT mR ?_
  refine dr_callF wN mr mb mx mr (c204 m w.a hl1) (Nat.le_of_ble_eq_true rfl) mv mT mN ?_
  repeat refine dr_act wN mb ma mc mT mR ?_
  cases hA : decide (0 ≤ w.a ∧ w.a ≤ (m.length : Nat) - 1)
  · iterate 3 refine dr_skip wG mT ?_
    repeat refine dr_act wN mb ma mc mT mR ?_
    iterate 5 refine dr_skip wG mT ?_
    repeat refine dr_act wN mb ma mc mT mR ?_
    iterate 13 refine dr_skip wG mT ?_
    repeat refine dr_act wN mb ma mc mT mR ?_
    refine dr_nil ⟨fun _ => by kernel_rfl, h1 _ (ev_ret ?_)⟩; clear h1
    exact retT [4] (hv := by rw [hasW, hA]; rfl)
  have ha := of_decide_eq_true hA
  have hrow : (m.getD w.a.toNat []).length ≤ 1048576 := mem_getD hl2 (by omega)
  repeat refine dr_act wG mb ma mc mT mR ?_
  refine dr_callF wG mr mb mx mr (c123 w.c 0 64) (Nat.le_of_ble_eq_true rfl) mv mT mN ?_
  repeat refine dr_act wN mb ma mc mT mR ?_
  cases hC : decide (0 ≤ w.c ∧ w.c ≤ 64)
  · iterate 5 refine dr_skip wG mT ?_
    repeat refine dr_act wN mb ma mc mT mR ?_
    iterate 13 refine dr_skip wG mT ?_
    repeat refine dr_act wN mb ma mc mT mR ?_
    refine dr_nil ⟨fun _ => by kernel_rfl, h1 _ (ev_ret ?_)⟩; clear h1
    exact retT [4] (hv := by rw [hasW, hA, hC]; rfl)
  have hc := of_decide_eq_true hC
  repeat refine dr_act wG mb ma mc mT mR ?_
  refine dr_callF wG mr mb mx mr (c123 w.n 0 w.c) (Nat.le_of_ble_eq_true rfl) mv mT mN ?_
  repeat refine dr_act wN mb ma mc mT mR ?_
  cases hN : decide (0 ≤ w.n ∧ w.n ≤ w.c)
  · iterate 13 refine dr_skip wG mT ?_
    repeat refine dr_act wN mb ma mc mT mR ?_
    refine dr_nil ⟨fun _ => by kernel_rfl, h1 _ (ev_ret ?_)⟩; clear h1
    exact retT [4] (hv := by rw [hasW, hA, hC, hN]; rfl)
  have w2 : IntKind.i64.wrap (((m.getD w.a.toNat []).length : Nat) - w.c) = ((m.getD w.a.toNat []).length : Nat) - w.c := wrap_of (by omega) (by omega)
  repeat refine dr_act wG mb ma mc mT mR ?_
  refine dr_ix ([] : List Int) wG mr mb (by simp only [En_nt, lookO, lookT, Nat.reduceEqDiff, Nat.reduceLT, ↓reduceIte]; rfl) ml mS (by omega) mT ?_
  repeat refine dr_act wG mb ma mc mT mR ?_
  rw [w2]
  refine dr_callF wG mr mb mx mr (c123 w.s 0 _) (Nat.le_of_ble_eq_true rfl) mv mT mN ?_
  repeat refine dr_act wN mb ma mc mT mR ?_
  refine dr_nil ⟨fun _ => by kernel_rfl, h1 _ (ev_ret ?_)⟩; clear h1
  exact retT [4] (hv := by rw [hasW, hA, hC, hN]; rfl)

/-- A box that holds a memory. -/
abbrev bM (m : List (List Int)) : Root := ⟨31, 1, [[eM m]]⟩

theorem c187 (m : List (List Int)) (w : Win) (hl1 : m.length ≤ 1048576) (hl2 : ∀ r, r ∈ m → r.length ≤ 1048576) :
    GoodR Try.prog 187 [eW w, .ptr (0, none) 0 0] [bM m] (vb (!hasW m w)) [some (bM m)] := by
  refine goodR_of (E := En 8 1) (fn := Try.f187) (by kernel_rfl) (by kernel_rfl) rfl rfl (by simp only [List.length_cons, List.length_nil]; decide) ⟨rfl, Nat.le_refl 1⟩ rfl ⟨rfl, trivial⟩ (fun C0 => ?_)
  simp only [argT, rsT, Nat.reduceAdd, List.length_cons, List.length_nil]
  refine ev_seq fun K1 h1 => ev_rf mB ?_
  repeat refine dr_act wN mb ma mc mT mR ?_
  refine dr_nil (h1 _ ?_); clear h1 K1
  refine ev_seq fun K1 h1 => ev_rf mB ?_
  repeat refine dr_act wN mb ma mc mT mR ?_
  refine dr_callF wN mr mb mx mr (c188 m w hl1 hl2) (Nat.le_of_ble_eq_true rfl) mv mT mN ?_
  repeat refine dr_act wN mb ma mc mT mR ?_
  refine dr_nil (h1 _ (ev_ret ?_)); clear h1
  exact retRT [] [3] (hR := ⟨⟨_, rfl, rfl, rfl, rfl⟩, trivial⟩)
end Go.Ev
namespace Go.Ev
open Go Go.RowKit Go.Proofs

def okMi (m : List (List Int)) : Bool := m.all okRow && decide ((m.length : Int) ≤ 16)
theorem okMi_eq (m : List (List Int)) : okMi m = okM m := by
  unfold okMi okM
  by_cases h : (m.length : Int) ≤ 16
  · rw [List.take_of_length_le (by omega)]
  · rw [decide_eq_false h, Bool.and_false, Bool.and_false]

theorem c162 (m : List (List Int)) (hl : m.length ≤ 1048576) : Good Try.prog 162 [eMem m] (vb (okM m)) [] := by
  rw [← okMi_eq]
  refine good_of (E := En 21) (fn := Try.f162) (by kernel_rfl) (by kernel_rfl) rfl rfl (by simp only [List.length_cons, List.length_nil]; decide) (fun C0 => ?_)
  simp only [argT, eMem, eM]
  refine ev_seq fun K1 h1 => ev_rf mB ?_
  repeat refine dr_act wN mb ma mc mT mR ?_
  refine dr_nil (h1 _ ?_); clear h1 K1
  refine ev_seq fun K1 h1 => ?_
  refine ev_seq fun K2 h2 => ev_rf mB ?_
  repeat refine dr_act wN mb ma mc mT mR ?_
  refine dr_nil (h2 _ ?_); clear h2 K2
  refine ev_block (ev_loop (α := {i : Nat // i ≤ m.length ∧ (m.take i).all okRow = true}) (fun i => ⟨[(1, .ptr (0, none) 0 0), (6, .list 1 (m.map cM)), (7, vi m.length), (8, vi i.1)], [(0, ⟨31, 1, [[.list 1 (m.map cM)]]⟩)], 48⟩) (fun i => m.length - i.1) ⟨0, Nat.zero_le _, rfl⟩ (weak_ren [] mK mK mD mQ) (fun ⟨i, hi, ht⟩ => ?_))
  refine ev_seq fun K2 h2 => ev_rf mB ?_
  repeat refine dr_act wN mb ma mc mT mR ?_
  refine dr_nil (h2 _ ?_); clear h2
  refine ev_seq fun K2 h2 => ?_
  refine ev_cond _ ml (fun h => ev_skip (h2 _ ?_)) (fun h => ev_exit ?_)
  · clear h1 h2
    have hlt : i < m.length := by have := of_decide_eq_true h; omega
    have hts : m.take (i + 1) = m.take i ++ [m.getD i []] := by
      rw [List.take_succ_eq_append_getElem hlt, List.getD_eq_getElem?_getD, List.getElem?_eq_getElem hlt]; rfl
    refine ev_seq fun K2 h2 => ev_block (ev_seq fun K3 h3 => ev_rf mB ?_)
    refine dr_ix ([] : List Int) wN mr mb ml ml mS (by omega) mT ?_
    repeat refine dr_act wN mb ma mc mT mR ?_
    refine dr_nil (h3 _ ?_); clear h3
    refine ev_seq fun K3 h3 => ev_rf mB ?_
    refine dr_act wN mb ma mc mT mR ?_
    refine dr_act wN mb (by simp only [eB]; exact ma) mc mT mR ?_
    refine dr_callF wN mr mb mx mr (c123 ((m.getD i []).length : Nat) 1 64) (Nat.le_of_ble_eq_true rfl) mv mT mN ?_
    cases hR : decide (1 ≤ ((m.getD i []).length : Int) ∧ ((m.getD i []).length : Int) ≤ 64)
    · repeat refine dr_act wN mb ma mc mT mR ?_
      refine dr_nil (h3 _ ?_); clear h3
      refine ev_cond true mlq (fun h => ?_) (fun h => by cases h)
      refine ev_seq fun K3 h3 => ev_rf mB ?_
      repeat refine dr_act wN mb ma mc mT mR ?_
      refine dr_nil (h3 _ (ev_ret ?_)); clear h3 h2
      have e : m.all okRow = false := by
        refine Bool.eq_false_iff.2 fun e => ?_
        have hm : m.getD i [] ∈ m := by rw [List.getD_eq_getElem?_getD, List.getElem?_eq_getElem hlt]; exact List.getElem_mem hlt
        have := List.all_eq_true.1 e _ hm
        rw [okRow, hR] at this
        cases this
      exact retT [2] (hv := by rw [okMi, e]; rfl)
    · repeat refine dr_act wN mb ma mc mT mR ?_
      refine dr_nil (h3 _ ?_); clear h3
      refine ev_cond false mlq (fun h => by cases h) (fun h => ev_skip (h2 _ ?_)); clear h2
      refine ev_rf mB ?_
      repeat refine dr_act wN mb ma mc mT mR ?_
      refine dr_nil ⟨⟨i + 1, hlt, by rw [hts, List.all_append, ht]; simp only [List.all_cons, List.all_nil, Bool.and_true, Bool.true_and]; exact hR⟩, by simp only []; omega, ?_⟩
      rw [w64p (n := m.length) hlt (by omega)]
      exact weak_ren [] mK mK mD mQ
  · simp only [seqK, loopK, blkK, ↓reduceIte]
    refine h1 _ ?_; clear h1 h2
    have hge := of_decide_eq_false h
    obtain rfl : i = m.length := by omega
    rw [List.take_length] at ht
    refine ev_seq fun K1 h1 => ev_rf mB ?_
    repeat refine dr_act wN mb ma mc mT mR ?_
    refine dr_nil (h1 _ (ev_ret ?_)); clear h1
    exact retT [2] (hv := by rw [okMi, ht]; rfl)

/-- The first window that is none. -/
def fiW (m : List (List Int)) : List Win → Int → Int
  | [], _ => -1
  | w :: ws, k => if hasW m w = true then fiW m ws (k + 1) else k
theorem fiW_all (m : List (List Int)) : ∀ (ws : List Win) (k : Int), 0 ≤ k → (fiW m ws k ≥ 0 ↔ ¬ ws.all (hasW m) = true)
  | [], k, h => ⟨fun h => absurd (show (-1 : Int) ≥ 0 from h) (by decide), fun h => absurd rfl h⟩
  | w :: ws, k, h => by
    by_cases e : hasW m w = true
    · simp only [fiW, if_pos e, List.all_cons, e, Bool.true_and]
      exact fiW_all m ws (k + 1) (by omega)
    · simp only [fiW, if_neg e, List.all_cons, Bool.eq_false_iff.2 e, Bool.false_and]
      exact ⟨fun _ => by decide, fun _ => h⟩

theorem wdrop {ws : List Win} {i : Nat} (d : Win) (h : i < ws.length) : ws.drop i = ws.getD i d :: ws.drop (i + 1) := by
  rw [List.drop_eq_getElem_cons h, List.getD_eq_getElem?_getD, List.getElem?_eq_getElem h]; rfl

theorem c203 (m : List (List Int)) (ws : List Win) (hl1 : m.length ≤ 1048576) (hl2 : ∀ r, r ∈ m → r.length ≤ 1048576) (hw : ws.length ≤ 1048576) :
    GoodR Try.prog 203 [.list 4 (ws.map cW), .clo 187 [.ptr (0, none) 0 0]] [bM m] (vi (fiW m ws 0)) [some (bM m)] := by
  refine goodR_of (E := En 19 1) (fn := Try.f203) (by kernel_rfl) (by kernel_rfl) rfl rfl (by simp only [List.length_cons, List.length_nil]; decide) ⟨rfl, Nat.le_refl 1⟩ rfl ⟨rfl, trivial⟩ (fun C0 => ?_)
  simp only [argT, rsT, Nat.reduceAdd, List.length_cons, List.length_nil]
  refine ev_seq fun K1 h1 => ev_rf mB ?_
  repeat refine dr_act wN mb ma mc mT mR ?_
  refine dr_nil (h1 _ ?_); clear h1 K1
  refine ev_seq fun K1 h1 => ?_
  refine ev_seq fun K2 h2 => ev_rf mB ?_
  repeat refine dr_act wN mb ma mc mT mR ?_
  refine dr_nil (h2 _ ?_); clear h2 K2
  refine ev_block (ev_loop (α := {i : Nat // i ≤ ws.length ∧ fiW m (ws.drop i) i = fiW m ws 0}) (fun i => ⟨[(0, .list 4 (ws.map cW)), (1, .clo 187 [.ptr (0, none) 0 0]), (7, vi ws.length), (8, vi i.1)], [(0, bM m)], 33⟩) (fun i => ws.length - i.1) ⟨0, Nat.zero_le _, rfl⟩ (weak_ren [] mK mK mD mQ) (fun ⟨i, hi, ht⟩ => ?_))
  refine ev_seq fun K2 h2 => ev_rf mB ?_
  repeat refine dr_act wN mb ma mc mT mR ?_
  refine dr_nil (h2 _ ?_); clear h2
  refine ev_seq fun K2 h2 => ?_
  refine ev_cond _ ml (fun h => ev_skip (h2 _ ?_)) (fun h => ev_exit ?_)
  · clear h1 h2
    have hlt : i < ws.length := by have := of_decide_eq_true h; omega
    simp only [wdrop ⟨0, 0, 0, 0⟩ hlt, fiW] at ht
    refine ev_seq fun K2 h2 => ev_block (ev_seq fun K3 h3 => ev_rf mB ?_)
    repeat refine dr_act wN mb ma mc mT mR ?_
    refine dr_nil (h3 _ ?_); clear h3
    refine ev_seq fun K3 h3 => ev_rf mB ?_
    repeat refine dr_act wN mb ma mc mT mR ?_
    refine dr_ix (⟨0, 0, 0, 0⟩ : Win) wN mr mb ml ml mS (by omega) mT ?_
    repeat refine dr_act wN mb ma mc mT mR ?_
    refine dr_callR [0] [] wN mr mb mx (c187 m (ws.getD i ⟨0, 0, 0, 0⟩) hl1 hl2) (.ren rfl rfl (.ren rfl rfl .nil)) ⟨⟨_, rfl, rfl, rfl, rfl, rfl⟩, trivial⟩ ⟨⟨by decide, fun z hz => by simp at hz⟩, Nat.le_of_ble_eq_true rfl⟩ mr mT (R1 := [(0, bM m)]) mr ?_
    cases hR : hasW m (ws.getD i ⟨0, 0, 0, 0⟩)
    · rw [hR, if_neg (by decide)] at ht
      refine dr_nil (h3 _ ?_); clear h3
      refine ev_cond true mlq (fun h => ?_) (fun h => by cases h)
      refine ev_seq fun K3 h3 => ev_rf mB ?_
      repeat refine dr_act wN mb ma mc mT mR ?_
      refine dr_nil (h3 _ (ev_ret ?_)); clear h3 h2
      exact retRT [] [4] (hv := by rw [← ht]; rfl) (hR := ⟨⟨_, rfl, rfl, rfl, rfl⟩, trivial⟩)
    · rw [hR, if_pos rfl] at ht
      refine dr_nil (h3 _ ?_); clear h3
      refine ev_cond false mlq (fun h => by cases h) (fun h => ev_skip (h2 _ ?_)); clear h2
      refine ev_rf mB ?_
      repeat refine dr_act wN mb ma mc mT mR ?_
      refine dr_nil ⟨⟨i + 1, hlt, ht⟩, by simp only []; omega, ?_⟩
      rw [w64p (n := ws.length) hlt (by omega)]
      exact weak_ren [] mK mK mD mQ
  · simp only [seqK, loopK, blkK, ↓reduceIte]
    refine h1 _ ?_; clear h1 h2
    have hge := of_decide_eq_false h
    obtain rfl : i = ws.length := by omega
    rw [List.drop_length] at ht
    refine ev_seq fun K1 h1 => ev_rf mB ?_
    repeat refine dr_act wN mb ma mc mT mR ?_
    refine dr_nil (h1 _ (ev_ret ?_)); clear h1
    exact retRT [] [4] (hv := by rw [← ht]; rfl) (hR := ⟨⟨_, rfl, rfl, rfl, rfl⟩, trivial⟩)

theorem c186 (m : List (List Int)) (ws : List Win) (hl1 : m.length ≤ 1048576) (hl2 : ∀ r, r ∈ m → r.length ≤ 1048576) (hw : ws.length ≤ 1048576) :
    GoodR Try.prog 186 [.list 4 (ws.map cW), .clo 187 [.ptr (0, none) 0 0]] [bM m] (vb (!ws.all (hasW m))) [some (bM m)] := by
  refine goodR_of (E := En 9 1) (fn := Try.f186) (by kernel_rfl) (by kernel_rfl) rfl rfl (by simp only [List.length_cons, List.length_nil]; decide) ⟨rfl, Nat.le_refl 1⟩ rfl ⟨rfl, trivial⟩ (fun C0 => ?_)
  simp only [argT, rsT, Nat.reduceAdd, List.length_cons, List.length_nil]
  refine ev_seq fun K1 h1 => ev_rf mB ?_
  repeat refine dr_act wN mb ma mc mT mR ?_
  refine dr_nil (h1 _ ?_); clear h1 K1
  refine ev_seq fun K1 h1 => ev_rf mB ?_
  repeat refine dr_act wN mb ma mc mT mR ?_
  refine dr_callR [0] [] wN mr mb mx (c203 m ws hl1 hl2 hw) (.ren rfl rfl (.ren rfl rfl .nil)) ⟨⟨_, rfl, rfl, rfl, rfl, rfl⟩, trivial⟩ ⟨⟨by decide, fun z hz => by simp at hz⟩, Nat.le_of_ble_eq_true rfl⟩ mr mT (R1 := [(0, bM m)]) mr ?_
  repeat refine dr_act wN mb ma mc mT mR ?_
  refine dr_nil (h1 _ (ev_ret ?_)); clear h1
  refine retRT [] [4] (hv := ?_) (hR := ⟨⟨_, rfl, rfl, rfl, rfl⟩, trivial⟩)
  have h := fiW_all m ws 0 (Int.le_refl 0)
  show vb (decide (fiW m ws 0 ≥ 0)) = vb (!ws.all (hasW m))
  congr 2
  by_cases e : ws.all (hasW m) = true
  · rw [e, decide_eq_false fun k => h.1 k e]; rfl
  · rw [Bool.eq_false_iff.2 e, decide_eq_true (h.2 e)]; rfl

theorem c146 (m : List (List Int)) (ws : List Win) (hl1 : m.length ≤ 1048576) (hl2 : ∀ r, r ∈ m → r.length ≤ 1048576) (hw : ws.length ≤ 1048576) :
    Good Try.prog 146 [eMem m, .list 4 (ws.map cW)] (vb (okM m && ws.all (hasW m))) [] := by
  refine good_of (E := En 13) (fn := Try.f146) (by kernel_rfl) (by kernel_rfl) rfl rfl (by simp only [List.length_cons, List.length_nil]; decide) (fun C0 => ?_)
  simp only [argT, Nat.reduceAdd]
  refine ev_seq fun K1 h1 => ev_rf mB ?_
  repeat refine dr_act wN mb ma mc mT mR ?_
  refine dr_nil (h1 _ ?_); clear h1 K1
  refine ev_seq fun K1 h1 => ev_rf mB ?_
  repeat refine dr_act wN mb ma mc mT mR ?_
  refine dr_callF wN mr mb mx mr (c162 m hl1) (Nat.le_of_ble_eq_true rfl) mv mT mN ?_
  repeat refine dr_act wN mb ma mc mT mR ?_
  cases hM : okM m
  · iterate 4 refine dr_skip wG mT ?_
    repeat refine dr_act wN mb ma mc mT mR ?_
    refine dr_nil (h1 _ (ev_ret ?_)); clear h1
    exact retT [4] (hv := by rw [hM]; rfl)
  repeat refine dr_act wG mb ma mc mT mR ?_
  refine dr_callR [0] [] wG mr mb mx (c186 m ws hl1 hl2 hw) (.ren rfl rfl (.ren rfl rfl .nil)) ⟨⟨_, rfl, rfl, rfl, rfl, rfl⟩, trivial⟩ ⟨⟨by decide, fun z hz => by simp at hz⟩, Nat.le_of_ble_eq_true rfl⟩ mr mT (R1 := [(0, bM m)]) mr ?_
  repeat refine dr_act wG mb ma mc mT mR ?_
  repeat refine dr_act wN mb ma mc mT mR ?_
  refine dr_nil (h1 _ (ev_ret ?_)); clear h1
  exact retT [4] (hv := by rw [hM]; simp [oneOf])
end Go.Ev
namespace Go.Ev
open Go Go.RowKit
variable {E : Env} {C0 C : Cx}

/-- An empty root, beside the others. -/
theorem empty_ok (hC : Sat C) {b ty sz : Nat} (hb : ¬ C.A b) :
    Sat (mkCx C C.w [] b ⟨ty, sz, []⟩ fun _ => none) ∧ Ext C (mkCx C C.w [] b ⟨ty, sz, []⟩ fun _ => none) ∧ Fr C (mkCx C C.w [] b ⟨ty, sz, []⟩ fun _ => none) := by
  have hg : ∀ q s xs, getP (mkCx C C.w [] b ⟨ty, sz, []⟩ fun _ => none).R (b, q) = some (s, xs) → xs = [] := by
    intro q s xs hp
    have hr : (mkCx C C.w [] b ⟨ty, sz, []⟩ fun _ => none).R b = some ⟨ty, sz, []⟩ := if_pos rfl
    cases q with
    | none =>
      rw [act_of hr] at hp
      simp only [Option.some.injEq, Prod.mk.injEq] at hp
      exact hp.2.symm
    | some ij =>
      obtain ⟨x, k1, _⟩ := getP_row (i := ij.1) (j := ij.2) hr hp
      simp at k1
  have hio : ∀ q, (mkCx C C.w [] b ⟨ty, sz, []⟩ fun _ => none).io (b, q) = none := fun q => if_pos rfl
  refine mk_sat hC hb ⟨rfl, rfl, rfl, Nat.le_refl _⟩ (fun _ _ _ => rfl) (fun _ q s xs h => ?_) (fun q q' g _ _ h => (by cases h)) (fun q g _ h => (by cases h))
  obtain rfl := hg q s xs h
  exact ⟨fun x hx => by simp at hx, fun _ => rfl, fun g h => by rw [hio] at h; cases h⟩

theorem empty_ref {b ty sz : Nat} {v : Value} (hv : VR C v (.val (.slice none 0 0))) : VR (mkCx C C.w [] b ⟨ty, sz, []⟩ fun _ => none) v (.ref (b, none) 0 0) := by
  obtain rfl := hv.val_inv
  refine .ref (.inr rfl) (fun s xs hp => ⟨Nat.zero_le _, Nat.le_refl _, Nat.zero_le _, fun _ => ⟨rfl, rfl⟩, fun g h => ?_⟩)
  have : (mkCx C C.w [] b ⟨ty, sz, []⟩ fun _ => none).io (b, none) = none := if_pos rfl
  rw [this] at h; cases h

def nilR (r : Root) (i j b : Nat) : Root := { r with els := r.els.set i ((r.els.getD i []).set j (.ref (b, none) 0 0)) }

theorem nil_ok (hC : Sat C) {n i j b ty sz : Nat} {r : Root} {x : List V} (hn : C.R n = some r) (hx : r.els[i]? = some x) (hj : x[j]? = some (.val (.slice none 0 0))) (hb : ¬ C.A b) :
    ∃ C', C'.w = C.w ∧ Sat C' ∧ Ext C C' ∧ Fr C C' ∧ (C'.R = fun y => if y = n then some (nilR r i j b) else if y = b then some ⟨ty, sz, []⟩ else C.R y) ∧ ∀ y, C'.A y → C.A y ∨ y = b := by
  obtain ⟨S1, E1, F1⟩ := empty_ok (ty := ty) (sz := sz) hC hb
  have href : ∀ v, VR C v (.val (.slice none 0 0)) → VR (mkCx C C.w [] b ⟨ty, sz, []⟩ fun _ => none) v (.ref (b, none) 0 0) := fun v => empty_ref
  have hnb : n ≠ b := fun e => hb (e ▸ hC.nm n r hn)
  have hR1 : (mkCx C C.w [] b ⟨ty, sz, []⟩ fun _ => none).R n = some r := by
    show (if n = b then _ else if n ∈ [] then none else C.R n) = _
    rw [if_neg hnb, if_neg (by simp)]; exact hn
  have hp1 : getP (mkCx C C.w [] b ⟨ty, sz, []⟩ fun _ => none).R (n, none) = some (r.sz, r.els) := act_of hR1
  have hio1 : (mkCx C C.w [] b ⟨ty, sz, []⟩ fun _ => none).io (n, none) = C.io (n, none) := if_neg hnb
  obtain ⟨k1, k2, k3⟩ := hC.pl (n, none) _ _ (act_of hn)
  cases hio : C.io (n, none) with
  | none => rw [k2 hio] at hx; simp at hx
  | some g =>
    obtain ⟨cs, ty', m1, m2, m3, m4⟩ := k3 g hio
    have hxl := k1 x (List.mem_of_getElem? hx)
    have hset : ∀ (a : Nat) y (c : Nat) d, (r.els.set i (x.set j (.ref (b, none) 0 0)))[a]? = some y → y[c]? = some d → (a = i ∧ c = j ∧ d = .ref (b, none) 0 0) ∨ ∃ z, r.els[a]? = some z ∧ z[c]? = some d := by
      intro a y c d h1 h2
      rcases set_get h1 with ⟨rfl, rfl⟩ | ⟨e, h1⟩
      · rcases set_get h2 with ⟨rfl, rfl⟩ | ⟨e, h2⟩
        · exact .inl ⟨rfl, rfl, rfl⟩
        · exact .inr ⟨_, hx, h2⟩
      · exact .inr ⟨_, h1, h2⟩
    obtain ⟨S2, E2, F2⟩ := sat_store (ys := r.els.set i (x.set j (.ref (b, none) 0 0))) (w' := C.w) (g := g) (cs := cs) (cs' := cs) (ty := ty') S1 ⟨rfl, rfl, rfl, Nat.le_refl _⟩ hR1 hp1 (by simp) (fun y hy => by
        rcases List.mem_or_eq_of_mem_set hy with h | h
        · exact k1 y h
        · subst h; rw [List.length_set]; exact hxl)
      (fun a y c s zs h1 h2 => by
        rcases hset a y c _ h1 h2 with ⟨_, _, e⟩ | h
        · cases e
        · exact h) (hio1.trans hio) m1 m1 rfl (fun _ _ => rfl) (fun a y c d h1 h2 => by
        rcases hset a y c d h1 h2 with ⟨rfl, rfl, rfl⟩ | ⟨z, h3, h4⟩
        · obtain ⟨v, n1, n2, n3⟩ := m4 _ _ _ _ hx hj
          exact ⟨v, n1, n2, .inr (href v n3)⟩
        · obtain ⟨v, n1, n2, n3⟩ := m4 _ _ _ _ h3 h4
          exact ⟨v, n1, n2, .inl ⟨z, h3, h4, n1⟩⟩)
    refine ⟨_, ?_, S2, E1.trans E2, F1.trans F2, ?_, fun y hy => hy⟩
    · rfl
    funext y
    simp only [stR, setP, nilR, getD_of_get hx]
    by_cases e : y = n
    · rw [if_pos e, if_pos e]
    · rw [if_neg e, if_neg e]
      show (if y = b then _ else if y ∈ [] then none else C.R y) = _
      simp

/-- A nil slice in a cell of root n is an empty slice of a new, empty root. -/
theorem weak_nil (n i j ty sz : Nat) {b b' : Nat} {T : List (Nat × V)} {R R' : List (Nat × Root)} {r : Root} {x : List V} (hn : lookR R n = some r) (hx : r.els[i]? = some x) (hj : x[j]? = some (.val (.slice none 0 0)))
    (hR : (n, nilR r i j b) :: (b, ⟨ty, sz, []⟩) :: dropR R n = R') (hb : b < b') : Weak E C0 ⟨T, R, b⟩ ⟨T, R', b'⟩ := by
  subst hR
  rintro a w ⟨C, rfl, hC, hCR, hTs, hsz, hd, hF, hA⟩
  have hnb : ¬ C.A b := fun h => by
    rcases hA b h with h1 | ⟨_, h1, _⟩
    · exact absurd h1 (by show ¬ b < b; omega)
    · exact h1
  obtain ⟨C', e1, S1, S2, S3, e2, e3⟩ := nil_ok (b := b) (ty := ty) (sz := sz) hC (by rw [hCR]; exact hn) hx hj hnb
  refine ⟨C', e1, S1, ?_, fun t ht => (hTs t ht).ext S2, hsz, hd, hF.next S2 S3, fun y hy => ?_⟩
  · rw [e2, hCR]
    funext y
    show _ = lookR ((n, nilR r i j b) :: (b, ⟨ty, sz, []⟩) :: dropR R n) y
    simp only [lookR, lookR_drop]
    by_cases c1 : y = n
    · rw [if_pos c1, if_pos c1.symm]
    · rw [if_neg c1, if_neg (Ne.symm c1)]
      by_cases c2 : y = b
      · rw [if_pos c2, if_pos c2.symm]
      · rw [if_neg c2, if_neg (Ne.symm c2), if_neg c1]
  · rcases e3 y hy with h | h
    · rcases hA y h with h1 | ⟨_, h1, _⟩
      · exact .inl (Nat.lt_trans h1 hb)
      · exact h1.elim
    · exact .inl (by rw [h]; exact hb)
end Go.Ev
namespace Go.Ev
open Go Go.RowKit Go.Proofs

theorem c127 (m : List (List Int)) (hl : m.length ≤ 1048576) (hr : ∀ r, r ∈ m → r.length ≤ 1048576) : Good Try.prog 127 [eMem m] (oM 0 m) [rM m] := by
  refine good_of (E := En 23) (fn := Try.f127) (by kernel_rfl) (by kernel_rfl) rfl rfl (by simp only [List.length_cons, List.length_nil]; decide) (fun C0 => ?_)
  simp only [argT, eMem, eM]
  iterate 2
    refine ev_seq fun K1 h1 => ev_rf mB ?_
    repeat refine dr_act wN mb ma mc mT mR ?_
    refine dr_nil (h1 _ ?_); clear h1 K1
  refine ev_seq fun K1 h1 => ?_
  refine ev_seq fun K2 h2 => ev_rf mB ?_
  repeat refine dr_act wN mb ma mc mT mR ?_
  refine dr_nil (h2 _ ?_); clear h2 K2
  refine ev_block (ev_loop (α := {i : Nat // i ≤ m.length}) (fun i => ⟨[(2, .ptr (8, none) 0 0), (3, .ptr (24, none) 0 0), (8, .list 1 (m.map cM)), (9, vi m.length), (10, vi i.1)], [(8, ⟨31, 1, [[.val (.slice none 0 0)]]⟩), (24, ⟨31, 1, [[.ref (72, none) 0 i.1]]⟩), (72, ⟨29, 1, (m.take i.1).map cR⟩)], 80⟩) (fun i => m.length - i.1) ⟨0, Nat.zero_le _⟩ (weak_trans (weak_nil 24 0 0 29 1 mr mr mr rfl (Nat.le_of_ble_eq_true rfl : 72 < 80)) (weak_ren [] mK mK mD mQ)) (fun ⟨i, hi⟩ => ?_))
  refine ev_seq fun K2 h2 => ev_rf mB ?_
  repeat refine dr_act wN mb ma mc mT mR ?_
  refine dr_nil (h2 _ ?_); clear h2
  refine ev_seq fun K2 h2 => ?_
  refine ev_cond _ ml (fun h => ev_skip (h2 _ ?_)) (fun h => ev_exit ?_)
  · clear h1 h2
    have hlt : i < m.length := by have := of_decide_eq_true h; omega
    have hri := mem_getD hr hlt
    have hti : (m.take i).length = i := by rw [List.length_take]; omega
    refine ev_seq fun K2 h2 => ev_block (ev_seq fun K3 h3 => ev_rf mB ?_)
    refine dr_ix ([] : List Int) wN mr mb ml ml mS (by omega) mT ?_
    repeat refine dr_act wN mb ma mc mT mR ?_
    refine dr_nil (h3 _ ?_); clear h3
    refine ev_reg mB ?_
    repeat refine dr_act wN mb ma mc mT mR ?_
    refine dr_callF wN mr mb mx mr (c161 (m.getD i []) hri) (Nat.le_of_ble_eq_true rfl) mv mT mN ?_
    refine dr_act wN mb ma (by exact ⟨⟨by decide, by decide, fun x hx => by simp at hx; subst hx; rfl⟩, by simp [notRow], by decide⟩) mT mR ?_
    refine dr_act wN mb ma (by exact ⟨hti.symm, by simp only [maxLen]; omega, by omega⟩) mT mR ?_
    repeat refine dr_act wN mb ma mc mT mR ?_
    refine dr_nil ⟨fun _ => by kernel_rfl, h2 _ (ev_rf mB ?_)⟩; clear h2
    repeat refine dr_act wN mb ma mc mT mR ?_
    refine dr_nil ⟨⟨i + 1, by omega⟩, by simp only []; omega, ?_⟩
    rw [w64p (n := m.length) (by omega) (by omega)]
    refine weak_ren [(72, 152)] mK (chkR_cons mK (chkR_cons mK (chkRm rfl (by decide) ?_ (fun _ => rfl) (fun a => by simp [okC]) trivial))) mD mQ
    rw [← map_take_succ ([] : List Int) hlt]
  · simp only [seqK, loopK, blkK, ↓reduceIte]
    refine h1 _ ?_; clear h1 h2
    have hge := of_decide_eq_false h
    obtain rfl : i = m.length := by omega
    refine ev_seq fun K1 h1 => ev_rf mB ?_
    repeat refine dr_act wN mb ma mc mT mR ?_
    refine dr_nil (h1 _ (ev_ret ?_)); clear h1
    refine retC [72] (hR := ⟨⟨?_, okRM⟩, trivial⟩)
    show some (Root.mk 29 1 ((m.take m.length).map cR)) = _
    rw [List.take_length]

theorem c87 (g : Gp) (hl : g.m.length ≤ 1048576) (hr : ∀ r, r ∈ g.m → r.length ≤ 1048576) : Good Try.prog 87 [eG g] (oG 0 g) [rM g.m] := by
  refine good_of (E := En 8) (fn := Try.f87) (by kernel_rfl) (by kernel_rfl) rfl rfl (by simp only [List.length_cons, List.length_nil]; decide) (fun C0 => ?_)
  simp only [argT, Nat.reduceAdd]
  refine ev_seq fun K1 h1 => ev_rf mB ?_
  repeat refine dr_act wN mb ma mc mT mR ?_
  refine dr_nil (h1 _ ?_); clear h1 K1
  refine ev_seq fun K1 h1 => ev_rf mB ?_
  repeat refine dr_act wN mb ma mc mT mR ?_
  refine dr_callF wN mr mb mx mr (c127 g.m hl hr) (Nat.le_of_ble_eq_true rfl) mv mT mN ?_
  repeat refine dr_act wN mb ma mc mT mR ?_
  refine dr_nil (h1 _ ?_); clear h1
  refine ev_seq fun K1 h1 => ev_rf mB ?_
  repeat refine dr_act wN mb ma mc mT mR ?_
  refine dr_nil (h1 _ (ev_ret ?_)); clear h1
  exact retC [32] (hR := ⟨⟨rfl, okRM⟩, trivial⟩)

theorem okW_eq {m : List (List Int)} {w : Win} : (okM m && hasW m w) = okW m w := by
  rw [Bool.eq_iff_iff]
  simp only [okW, hasW, Bool.and_eq_true, decide_eq_true_eq]
  constructor
  · rintro ⟨h1, ⟨⟨h2, h3⟩, h4⟩, h5⟩
    exact ⟨⟨⟨⟨h1, h2⟩, by omega⟩, by omega⟩, h4⟩
  · rintro ⟨⟨⟨⟨h1, h2⟩, h3⟩, h4⟩, h5⟩
    have := mem_getD (okM_GM h1).r (show w.a.toNat < m.length by omega)
    exact ⟨h1, ⟨⟨h2, by omega⟩, h5⟩, by omega⟩

theorem c86 (g : Gp) (hl1 : g.m.length ≤ 1048576) (hl2 : ∀ r, r ∈ g.m → r.length ≤ 1048576) : Good Try.prog 86 [eG g] (vb (okG g)) [] := by
  refine good_of (E := En 24) (fn := Try.f86) (by kernel_rfl) (by kernel_rfl) rfl rfl (by simp only [List.length_cons, List.length_nil]; decide) (fun C0 => ?_)
  simp only [argT, Nat.reduceAdd]
  have hcs := c146 g.m [g.w] hl1 hl2 (Nat.le_of_ble_eq_true rfl)
  have e : (okM g.m && [g.w].all (hasW g.m)) = okW g.m g.w := by rw [← okW_eq]; simp
  rw [e] at hcs
  refine ev_seq fun K1 h1 => ev_rf mB ?_
  repeat refine dr_act wN mb ma mc mT mR ?_
  refine dr_nil (h1 _ ?_); clear h1 K1
  refine ev_seq fun K1 h1 => ev_rf mB ?_
  repeat refine dr_act wN mb ma mc mT mR ?_
  refine dr_call wN mr mb mx (.cons (fN rfl) (.cons (.cell (.ref (xs := [cW g.w]) (zs := [cW g.w]) mr (cut_all rfl) (norow_noN0 rfl))) .nil)) hcs (Nat.le_of_ble_eq_true rfl) mv mT mN ?_
  repeat refine dr_act wN mb ma mc mT mR ?_
  cases hW : okW g.m g.w
  · iterate 6 refine dr_skip wG mT ?_
    repeat refine dr_act wN mb ma mc mT mR ?_
    iterate 5 refine dr_skip wG mT ?_
    repeat refine dr_act wN mb ma mc mT mR ?_
    refine dr_nil (h1 _ (ev_ret ?_)); clear h1
    exact retT [2] (hv := by rw [okG, hW]; rfl)
  repeat refine dr_act wG mb ma mc mT mR ?_
  refine dr_callF wG mr mb mx mr (c123 g.q 0 g.w.n) (Nat.le_of_ble_eq_true rfl) mv mT mN ?_
  repeat refine dr_act wN mb ma mc mT mR ?_
  cases hQ : decide (0 ≤ g.q ∧ g.q ≤ g.w.n)
  · iterate 5 refine dr_skip wG mT ?_
    repeat refine dr_act wN mb ma mc mT mR ?_
    refine dr_nil (h1 _ (ev_ret ?_)); clear h1
    exact retT [2] (hv := by rw [okG, hW, hQ]; rfl)
  repeat refine dr_act wG mb ma mc mT mR ?_
  refine dr_callF wG mr mb mx mr (c123 g.p 0 g.q) (Nat.le_of_ble_eq_true rfl) mv mT mN ?_
  repeat refine dr_act wN mb ma mc mT mR ?_
  refine dr_nil (h1 _ (ev_ret ?_)); clear h1
  exact retT [2] (hv := by rw [okG, hW, hQ]; rfl)
end Go.Ev
namespace Go.Ev
open Go Go.RowKit Go.Proofs

theorem bytesOf_eq {m : List (List Int)} {w : Win} (h : Fits m w) : bytesOf m w = ((m.getD w.a.toNat []).drop w.s.toNat).take w.n.toNat := by
  have h1 := h.n1
  have h2 := h.s0
  have h3 := h.n0
  apply List.ext_getElem?
  intro k
  rw [List.getElem?_take, List.getElem?_drop]
  simp only [bytesOf, List.getElem?_map, List.getElem?_range']
  by_cases hk : k < w.n.toNat
  · rw [if_pos hk, List.getElem?_range hk]
    have e : (w.s + (k : Int)).toNat = w.s.toNat + k := by omega
    simp only [Option.map_some, e]
    rw [List.getD_eq_getElem?_getD, List.getElem?_eq_getElem (by omega)]
    rfl
  · rw [if_neg hk, List.getElem?_eq_none (by simpa using hk)]
    rfl

theorem slB_eq {m : List (List Int)} {w : Win} (h : Fits m w) {i j : Int} (h0 : 0 ≤ i) (hj : j ≤ w.n) : slB (bytesOf m w) i j = ((m.getD w.a.toNat []).drop (w.s.toNat + i.toNat)).take (j.toNat - i.toNat) := by
  rw [slB, bytesOf_eq h, List.drop_take, List.take_take, List.drop_drop]
  congr 1
  omega

theorem copyL_ovr {r xs : List Int} {s n : Nat} (hn : n = xs.length) : copyL (r.map cB) (xs.map cB) s n = (ovr r s xs).map cB := by
  subst hn
  simp only [copyL, ovr, List.map_append, List.map_take, List.map_drop]
  rw [show List.take xs.length (xs.map cB) = xs.map cB from List.take_of_length_le (by rw [List.length_map]; exact Nat.le_refl _)]

theorem cut_sub {r : List Int} {s n : Nat} : cut (r.map cB) s n = ((r.drop s).take n).map cB := by
  rw [cut_eq, List.map_take, List.map_drop]

theorem wrM_nil {m : List (List Int)} {a s : Nat} : wrM m a s [] = m := by
  rw [wrM, ovr_nil]
  apply List.ext_getElem?
  intro k
  rw [List.getElem?_set]
  split
  · rename_i e; subst e
    rw [List.getD_eq_getElem?_getD]
    split
    · rename_i h
      rw [List.getElem?_eq_getElem h]; rfl
    · rename_i h
      rw [List.getElem?_eq_none (by omega)]
  · rfl

theorem rnR_rM {ρ : Nat → Nat} {m : List (List Int)} : rnR ρ (rM m) = rM m := by
  show Root.mk 29 1 ((m.map cR).map (·.map (rnC ρ))) = _
  rw [← rnMap (fun _ => rfl)]

/-- What a call by reference that hands over one memory leaves. -/
theorem wr1 {R : List (Nat × Root)} {n b : Nat} {m : List (List Int)} : applyW R (wrR [n] [] b [some (rM m)]) = (n, rM m) :: dropR R n := by
  simp only [wrR, newR, upN, List.map_nil, List.nil_append, Option.map_some, rnR_rM]
  rfl

theorem hand1 {R : Rs} {n : Nat} {m : List (List Int)} (h : R n = some (rM m)) : HandL R [n] 1 [n] [rM m] :=
  ⟨⟨_, h, rfl, rfl, rnMap (fun _ => rfl) m, okMM⟩, trivial⟩

abbrev bG (n : Nat) (g : Gp) : Root := ⟨34, 7, [cG (.ref (n, none) 0 g.m.length) g]⟩

theorem nz {ns : List Nat} : ∀ z, z ∈ ([] : List Nat) → z ∉ ns := fun z hz => by simp at hz

theorem mvG_ge {g : Gp} {t : Int} (h : g.p ≤ t) : mvG g t = ⟨wrM g.m g.w.a.toNat (g.w.s + g.p).toNat (slB (bytesOf g.m g.w) g.q (t + (g.q - g.p))), g.w, t, t + (g.q - g.p)⟩ ∧ mvC g t = t - g.p := by
  unfold mvG mvC
  by_cases e : t ≤ g.p
  · obtain rfl : t = g.p := by omega
    rw [if_pos e, if_pos e]
    have e1 : slB (bytesOf g.m g.w) g.p g.p = [] := by simp [slB]
    have e2 : slB (bytesOf g.m g.w) g.q (g.p + (g.q - g.p)) = [] := by
      rw [show g.p + (g.q - g.p) = g.q by omega]; simp [slB]
    rw [e1, e2, wrM_nil, wrM_nil]
    exact ⟨rfl, rfl⟩
  · rw [if_neg e, if_neg e]
    exact ⟨rfl, rfl⟩

theorem getRow {R : Rs} {n a : Nat} {m : List (List Int)} (h : R n = some (rM m)) (ha : a < m.length) : getP R (n, some (a, 0)) = some (1, (m.getD a []).map cB) := getP_map (d := []) (g := cR) (ys := m) h ha rfl

theorem elsRow {R : Rs} {x : V} {n a off len : Nat} {m : List (List Int)} {ys : List Int} (hx : x = .ref (n, some (a, 0)) off len) (h : R n = some (rM m)) (ha : a < m.length) (he : ((m.getD a []).drop off).take len = ys) : elsOf R x = some (1, ys.map cB) := by
  subst hx
  simp only [elsOf, getRow h ha, Option.map_some, cut_sub, he]

theorem okBn {xs : List Int} : (xs.map cB).all (·.all notRow) = true := by
  refine List.all_eq_true.2 fun x hx => ?_
  obtain ⟨a, _, rfl⟩ := List.mem_map.1 hx
  rfl

section rules
variable {E : Env} {C0 : Cx} {T : List (Nat × V)} {R : List (Nat × Root)} {ops : Array Oper} {base i bi : Nat} {o : Oper} {l : List Oper} {T1 : List (Nat × V)} {R1 : List (Nat × Root)} {v : V}
variable {Kd : List (Nat × V) → List (Nat × Root) → List Lg → Prop}

/-- Bytes copied into a row of an own memory. -/
theorem dr_cpr {d s : Operand} {t u : TypeId} {n a off len : Nat} {m : List (List Int)} (src : List Int) (hw : WantOK E.nt ops o (lookT T) true) (ho : o.op = .call ⟨.builtin .copy, #[d, s], #[t, u]⟩) (hb : base + 8 * i = bi) (hd : lookO E.nt (lookT T) d = .ref (n, some (a, 0)) off len) (hr : lookR R n = some (rM m)) (ha : a < m.length)
    (hs : elsOf (lookR R) (lookO E.nt (lookT T) s) = some (1, src.map cB)) (hz : slT E.tab t ∧ (E.tab (E.tab t).elem).sz = 1) (hl : src.length ≤ len) (hT : putT T o.dst (vi (src.length : Nat)) = T1) (hR : (n, rM (wrM m a off src)) :: dropR R n = R1)
    (hk : ∀ z, Dr E ops base (i + 1) l (fun T' R' lg => Kd T' R' ((opNames (lookO E.nt (lookT T)) o.op, [(n, z)]) :: lg)) T1 R1) : Dr E ops base i (o :: l) Kd T R := by
  have hm : min len (src.map cB).length = src.length := by rw [List.length_map]; omega
  refine dr_cpp (ts := #[]) (zs := (ovr (m.getD a []) off src).map cB) hw ho hb hd (getRow hr ha) hr hs hz okBn (by rw [hm]; exact copyL_ovr rfl) (by rw [hm]; exact hT) ?_ (hk _)
  rw [← hR, setP_row ha]
  rfl

/-- A part of a row of an own memory. -/
theorem dr_slr {t : TypeId} {x : Operand} {lo hi : Option Operand} {n k off len : Nat} {m : List (List Int)} (a c : Int) (hw : WantOK E.nt ops o (lookT T) true) (ho : o.op = .slice t x lo hi none) (hb : base + 8 * i = bi) (hx : lookO E.nt (lookT T) x = .ref (n, some (k, 0)) off len) (hr : lookR R n = some (rM m)) (ha : k < m.length)
    (hlo : bndV (lo.map (lookO E.nt (lookT T))) 0 = some a) (hhi : bndV (hi.map (lookO E.nt (lookT T))) len = some c) (hs : slT E.tab t ∧ 1 = (E.tab (E.tab t).elem).sz) (h01 : 0 ≤ a ∧ a ≤ c ∧ c ≤ len) (hT : putT T o.dst (.ref (n, some (k, 0)) (off + a.toNat) (c.toNat - a.toNat)) = T1)
    (hk : Dr E ops base (i + 1) l (fun T' R' lg => Kd T' R' ((opNames (lookO E.nt (lookT T)) o.op, []) :: lg)) T1 R) : Dr E ops base i (o :: l) Kd T R :=
  dr_slp hw ho hb hx (getRow hr ha) hlo hhi hs h01 rfl hT hk
end rules
end Go.Ev
namespace Go.Ev
open Go Go.RowKit Go.Proofs

theorem c93 (g : Gp) (t : Int) (hg : GG g) (h0 : 0 ≤ t) (ht : t ≤ lgG g) :
    GoodR Try.prog 93 [.ptr (0, none) 0 0, vi t] [bG 1 g, rM g.m] (vi (mvC g t)) [some (bG 1 (mvG g t)), some (rM (mvG g t).m)] := by
  refine goodR_of (E := En 76 2) (fn := Try.f93) (by kernel_rfl) (by kernel_rfl) rfl rfl (by simp only [List.length_cons, List.length_nil]; decide) ⟨rfl, Nat.le_refl 2⟩ rfl ⟨rfl, okMM, trivial⟩ (fun C0 => ?_)
  have ht : t ≤ g.w.n - (g.q - g.p) := ht
  have hwn := hg.w.c64
  have hwn1 := hg.w.n1
  have hwn0 := hg.w.n0
  have hq := hg.qn
  have hp0 := hg.p0
  have hpq := hg.pq
  have hs0 := hg.w.s0
  have hc1 := hg.w.c1
  have ha0 := hg.w.a0
  have ha1 := hg.w.a1
  have w1 : IntKind.i64.wrap (t - g.p) = t - g.p := wrap_of (by omega) (by omega)
  have w2 : IntKind.i64.wrap (g.q + (t - g.p)) = g.q + (t - g.p) := wrap_of (by omega) (by omega)
  have w3 : IntKind.i64.wrap (-(t - g.p)) = -(t - g.p) := wrap_of (by omega) (by omega)
  have hrow := hg.w.row
  simp only [argT, rsT, Nat.reduceAdd, List.length_cons, List.length_nil]
  refine ev_seq fun K1 h1 => ev_rf mB ?_
  repeat refine dr_act wN mb ma mc mT mR ?_
  refine dr_nil (h1 _ ?_); clear h1 K1
  refine ev_seq fun K1 h1 => ev_reg mB ?_
  repeat refine dr_act wN mb ma mc mT mR ?_
  refine dr_callR [1] [] wN mr mb mx (c107 g.m g.w hg.w.fits (wrap_of (by omega) (by omega))) (.ren rfl rfl (.ren rfl rfl .nil)) (hand1 mr) ⟨⟨by decide, nz⟩, Nat.le_of_ble_eq_true rfl⟩ (v := .ref (1, some (g.w.a.toNat, 0)) g.w.s.toNat g.w.n.toNat) rfl mT (wr1.trans mr) ?_
  repeat refine dr_act wN mb ma mc mT mR ?_
  refine dr_nil ⟨fun _ => by kernel_rfl, h1 _ ?_⟩; clear h1
  rw [w1]
  refine ev_seq fun K1 h1 => ?_
  refine ev_seq fun K2 h2 => ev_rf mB ?_
  repeat refine dr_act wN mb ma mc mT mR ?_
  refine dr_nil (h2 _ ?_); clear h2
  refine ev_cond _ ml (fun h => ?_) (fun h => ?_)
  · have hlt := of_decide_eq_true h
    refine ev_reg mB ?_
    repeat refine dr_act wN mb ma mc mT mR ?_
    rw [w2]
    refine dr_slr (g.q + (t - g.p)) (g.w.n.toNat : Nat) wN mr mb ml mr (by omega) mr mr mS (by omega) mT ?_
    repeat refine dr_act wN mb ma mc mT mR ?_
    refine dr_slr t g.p wN mr mb ml mr (by omega) mr mr mS (by omega) mT ?_
    refine dr_cpr (slB (bytesOf g.m g.w) t g.p) wN mr mb ml mr (by omega) (elsRow ml mr (by omega) (slB_eq hg.w.fits h0 (by omega)).symm) mS (by have := slB_le (bytesOf g.m g.w) t g.p; simp only [Int.toNat_natCast]; omega) mT mr fun z => ?_
    refine dr_nil ⟨fun _ => by kernel_rfl, h1 _ ?_⟩; clear h1
    have e1 : g.w.s.toNat + (g.q + (t - g.p)).toNat = (g.w.s + (t + (g.q - g.p))).toNat := by omega
    have e2 : g.q + (t - g.p) = t + (g.q - g.p) := by omega
    rw [e1, mvG, mvC, if_pos (by omega), if_pos (by omega)]
    refine ev_seq fun K1 h1 => ev_reg mB ?_
    repeat refine dr_act wN mb ma mc mT mR ?_
    rw [w2]
    refine dr_nil ⟨fun _ => by kernel_rfl, h1 _ ?_⟩; clear h1
    refine ev_seq fun K1 h1 => ev_rf mB ?_
    refine dr_act wN mb ma mc mT mR ?_
    refine dr_act wN mb ma mc mT mR ?_
    refine dr_act wN mb ma mc mT mR ?_
    rw [w3]
    repeat refine dr_act wN mb ma mc mT mR ?_
    refine dr_nil (h1 _ (ev_ret ?_)); clear h1
    refine retRT [] [4] (hv := ?_) (hR := ⟨⟨_, rfl, rfl, rfl, ?_⟩, ⟨_, rfl, rfl, rfl, ?_⟩, trivial⟩)
    · rw [if_pos (by omega), show -(t - g.p) = g.p - t by omega]; rfl
    · simp only [bG, cG, wrM_length, e2]; rfl
    · exact rnMap (fun _ => rfl) _
  · have hge := of_decide_eq_false h
    have hm := mvG_ge (g := g) (t := t) (by omega)
    refine ev_reg mB ?_
    repeat refine dr_act wN mb ma mc mT mR ?_
    refine dr_slr g.p (g.w.n.toNat : Nat) wN mr mb ml mr (by omega) mr mr mS (by omega) mT ?_
    repeat refine dr_act wN mb ma mc mT mR ?_
    rw [w2]
    refine dr_slr g.q (g.q + (t - g.p)) wN mr mb ml mr (by omega) mr mr mS (by omega) mT ?_
    refine dr_cpr (slB (bytesOf g.m g.w) g.q (g.q + (t - g.p))) wN mr mb ml mr (by omega) (elsRow ml mr (by omega) (slB_eq hg.w.fits (by omega) (by omega)).symm) mS (by have := slB_le (bytesOf g.m g.w) g.q (g.q + (t - g.p)); simp only [Int.toNat_natCast]; omega) mT mr fun z => ?_
    refine dr_nil ⟨fun _ => by kernel_rfl, h1 _ ?_⟩; clear h1
    have e1 : g.w.s.toNat + g.p.toNat = (g.w.s + g.p).toNat := by omega
    have e2 : g.q + (t - g.p) = t + (g.q - g.p) := by omega
    rw [e1, hm.1, hm.2]
    refine ev_seq fun K1 h1 => ev_reg mB ?_
    repeat refine dr_act wN mb ma mc mT mR ?_
    rw [w2]
    refine dr_nil ⟨fun _ => by kernel_rfl, h1 _ ?_⟩; clear h1
    refine ev_seq fun K1 h1 => ev_rf mB ?_
    refine dr_act wN mb ma mc mT mR ?_
    refine dr_act wN mb ma mc mT mR ?_
    refine dr_act wN mb ma mc mT mR ?_
    rw [w3]
    repeat refine dr_act wN mb ma mc mT mR ?_
    refine dr_nil (h1 _ (ev_ret ?_)); clear h1
    refine retRT [] [4] (hv := ?_) (hR := ⟨⟨_, rfl, rfl, rfl, ?_⟩, ⟨_, rfl, rfl, rfl, ?_⟩, trivial⟩)
    · rw [if_neg (by omega)]; rfl
    · simp only [bG, cG, wrM_length, e2]; rfl
    · rw [e2]; exact rnMap (g := cR) (fun _ => rfl) _
end Go.Ev
namespace Go.Ev
open Go Go.RowKit Go.Proofs

section rules
variable {E : Env} {C0 : Cx} {T : List (Nat × V)} {R : List (Nat × Root)} {ops : Array Oper} {base i bi : Nat} {o : Oper} {l : List Oper} {T1 : List (Nat × V)} {R1 : List (Nat × Root)} {v : V}
variable {Kd : List (Nat × V) → List (Nat × Root) → List Lg → Prop}

/-- Bytes copied into own bytes. -/
theorem dr_cpb {d s : Operand} {t u : TypeId} {n off len ty : Nat} (ys src : List Int) (hw : WantOK E.nt ops o (lookT T) true) (ho : o.op = .call ⟨.builtin .copy, #[d, s], #[t, u]⟩) (hb : base + 8 * i = bi) (hd : lookO E.nt (lookT T) d = .ref (n, none) off len) (hr : lookR R n = some ⟨ty, 1, ys.map cB⟩)
    (hs : elsOf (lookR R) (lookO E.nt (lookT T) s) = some (1, src.map cB)) (hz : slT E.tab t ∧ (E.tab (E.tab t).elem).sz = 1) (hl : src.length ≤ len) (hT : putT T o.dst (vi (src.length : Nat)) = T1) (hR : (n, ⟨ty, 1, (ovr ys off src).map cB⟩) :: dropR R n = R1)
    (hk : ∀ z, Dr E ops base (i + 1) l (fun T' R' lg => Kd T' R' ((opNames (lookO E.nt (lookT T)) o.op, [(n, z)]) :: lg)) T1 R1) : Dr E ops base i (o :: l) Kd T R := by
  have hm : min len (src.map cB).length = src.length := by rw [List.length_map]; omega
  exact dr_cpp (ts := #[]) (p := (n, none)) (zs := (ovr ys off src).map cB) hw ho hb hd (act_of hr) hr hs hz okBn (by rw [hm]; exact copyL_ovr rfl) (by rw [hm]; exact hT) hR (hk _)

/-- A row is loaded from an own memory. -/
theorem dr_ldr {t : TypeId} {a : Operand} {n k : Nat} {m : List (List Int)} (hw : WantOK E.nt ops o (lookT T) true) (ho : o.op = .load t a) (hb : base + 8 * i = bi) (ha : lookO E.nt (lookT T) a = .ptr (n, none) k 0) (hr : lookR R n = some (rM m)) (hk0 : k < m.length) (hz : (E.tab t).sz = 1 ∧ (E.tab t).agg = false)
    (hT : putT T o.dst (.ref (n, some (k, 0)) 0 (m.getD k []).length) = T1)
    (hk : Dr E ops base (i + 1) l (fun T' R' lg => Kd T' R' ((opNames (lookO E.nt (lookT T)) o.op, []) :: lg)) T1 R) : Dr E ops base i (o :: l) Kd T R :=
  dr_ldp (g := cR) (ys := m) [] hw ho hb ha (act_of hr) hk0 (by rw [hz.1]; exact ⟨by decide, Nat.le_refl 1⟩) (by
    rw [hz.1, hz.2]
    show some (V.ref (n, some (k, 0)) 0 ((m.getD k []).map cB).length) = _
    rw [List.length_map]) hT hk
end rules

theorem ovr_pad {xs ys : List Int} {n : Nat} (h : xs.length + ys.length ≤ n) : ovr (ovr (List.replicate n 0) 0 xs) xs.length ys = padB (xs ++ ys) n := by
  simp only [ovr, List.take_zero, List.nil_append, Nat.zero_add, List.drop_replicate]
  rw [List.take_append_of_le_length (Nat.le_refl _), List.take_length, List.drop_append, List.drop_of_length_le (by omega), List.nil_append, List.drop_replicate, padB, List.length_append]
  congr 2
  omega

abbrev oWo : Option (List (List Int) × Win) → V
  | some (_, w) => .tup [eW w, vb true]
  | none => .tup [zW, vb false]
def memO (m : List (List Int)) : Option (List (List Int) × Win) → List (List Int)
  | some (m', _) => m'
  | none => m

theorem capI {c need : Int} : (if (if need > 2 * c then need else 2 * c) < 64 then (if need > 2 * c then need else 2 * c) else 64) = capN c need := by
  unfold capN
  split <;> split <;> split <;> (try split) <;> omega

theorem c189 (g : Gp) (w : Win) (xs : List Int) (hw : GW g.m w) (hx : xs.length ≤ 1048576) :
    GoodR Try.prog 189 [.ptr (0, none) 0 0, eW w, eB xs] [bG 1 g, rM g.m] (oWo (apM g.m w xs)) [some (bG 2 { g with m := memO g.m (apM g.m w xs) }), none, some (rM (memO g.m (apM g.m w xs)))] := by
  refine goodR_of (E := En 96 2) (fn := Try.f189) (by kernel_rfl) (by kernel_rfl) rfl rfl (by simp only [List.length_cons, List.length_nil]; decide) ⟨rfl, Nat.le_of_ble_eq_true rfl⟩ (by rcases apM g.m w xs with _ | ⟨m', w'⟩ <;> rfl) ⟨rfl, okMM, trivial⟩ (fun C0 => ?_)
  have hc := hw.c64
  have hn0 := hw.n0
  have hn1 := hw.n1
  have hs0 := hw.s0
  have hc1 := hw.c1
  have ha0 := hw.a0
  have ha1 := hw.a1
  have hrow := hw.row
  have hml := hw.g.l
  have w1 : IntKind.i64.wrap (w.s + w.n) = w.s + w.n := wrap_of (by omega) (by omega)
  have w2 : IntKind.i64.wrap (w.n + (xs.length : Nat)) = w.n + (xs.length : Nat) := wrap_of (by omega) (by omega)
  have w4 : IntKind.i64.wrap (2 * w.c) = 2 * w.c := wrap_of (by omega) (by omega)
  simp only [argT, rsT, Nat.reduceAdd, List.length_cons, List.length_nil, eB]
  refine ev_seq fun K1 h1 => ev_rf mB ?_
  repeat refine dr_act wN mb ma mc mT mR ?_
  refine dr_nil (h1 _ ?_); clear h1 K1
  refine ev_seq fun K1 h1 => ev_reg mB ?_
  repeat refine dr_act wN mb ma mc mT mR ?_
  refine dr_nil ⟨fun _ => by kernel_rfl, h1 _ ?_⟩; clear h1
  rw [w1, w2]
  refine ev_seq fun K1 h1 => ?_
  refine ev_seq fun K2 h2 => ev_rf mB ?_
  repeat refine dr_act wN mb ma mc mT mR ?_
  refine dr_nil (h2 _ ?_); clear h2
  refine ev_cond _ ml (fun h => ?_) (fun h => ev_skip (h1 _ ?_))
  · have hle := of_decide_eq_true h
    clear h1
    have e : apM g.m w xs = some (wrM g.m w.a.toNat (w.s + w.n).toNat xs, ⟨w.a, w.s, w.n + xs.length, w.c⟩) := by rw [apM, if_pos (by omega)]
    rw [e]
    refine ev_seq fun K1 h1 => ev_reg mB ?_
    repeat refine dr_act wN mb ma mc mT mR ?_
    refine dr_ixp wN mr mb ml ml mr mS ⟨ha0, ha1⟩ (Nat.zero_add _) mT ?_
    refine dr_ldr wN mr mb ml mr (by omega) mZ mT ?_
    repeat refine dr_act wN mb ma mc mT mR ?_
    refine dr_slr (w.s + w.n) ((g.m.getD w.a.toNat []).length : Nat) wN mr mb ml mr (by omega) mr mr mS (by omega) mT ?_
    repeat refine dr_act wN mb ma mc mT mR ?_
    refine dr_cpr xs wN mr mb ml mr (by omega) (by simp only [En_nt, lookO, lookT, Nat.reduceEqDiff, Nat.reduceLT, ↓reduceIte]; rfl) mS (by simp only [Int.toNat_natCast]; omega) mT mr fun z => ?_
    refine dr_nil ⟨fun _ => by kernel_rfl, h1 _ ?_⟩; clear h1
    rw [Nat.zero_add]
    refine ev_weak (σ' := ⟨[(4, .ptr (2, none) 0 0), (6, .ptr (10, none) 0 0), (9, vi (w.n + (xs.length : Nat)))], [(0, ⟨34, 7, [cG (.ref (400, none) 0 g.m.length) g]⟩), (2, ⟨32, 4, [cW w]⟩), (10, ⟨32, 4, [[vi 0, vi 0, vi 0, vi 0]]⟩), (400, rM (wrM g.m w.a.toNat (w.s + w.n).toNat xs))], 408⟩) (weak_ren [(400, 1)] mK (chkR_cons mK (chkR_cons mK (chkR_cons mK (chkRm rfl (by decide) rfl (fun _ => rfl) (fun a => by simp [okC]) trivial)))) mD mQ) ?_
    refine ev_seq fun K1 h1 => ev_rf mB ?_
    repeat refine dr_act wN mb ma mc mT mR ?_
    refine dr_nil (h1 _ (ev_ret ?_)); clear h1
    refine retLR [400] (res' := [.cell 6 32, .tmp 7]) mr (.cell nT mZ ma mc mP (.tmp nT mL .nil)) rfl (by decide) rfl ⟨⟨_, rfl, rfl, rfl, ?_⟩, ⟨_, rfl, rfl, rfl, rnMap (g := cR) (fun _ => rfl) _⟩, trivial⟩
    simp only [bG, cG, memO, wrM_length]; rfl
  have hgt := of_decide_eq_false h
  clear h1 K1 h
  have none' : apM g.m w xs = none ∨ ¬ (w.n + (xs.length : Nat) > 64) ∧ ¬ (g.m.length : Int) = 16 := by
    by_cases c : 64 - w.n < xs.length ∨ g.m.length = 16
    · left; rw [apM, if_neg (by omega), if_pos c]
    · right; constructor <;> omega
  refine ev_seq fun K1 h1 => ?_
  refine ev_seq fun K2 h2 => ev_rf mB ?_
  repeat refine dr_act wN mb ma mc mT mR ?_
  cases hd : decide (w.n + (xs.length : Nat) > 64)
  rotate_left
  · iterate 6 refine dr_skip wG mT ?_
    repeat refine dr_act wN mb ma mc mT mR ?_
    refine dr_nil (h2 _ ?_); clear h2
    have e : apM g.m w xs = none := none'.resolve_right fun k => k.1 (of_decide_eq_true hd)
    refine ev_cond true mlq (fun h => ?_) (fun h => by cases h)
    rw [e]
    refine ev_weak (σ' := ⟨[(6, .ptr (10, none) 0 0)], [(0, bG 400 g), (10, ⟨32, 4, [[vi 0, vi 0, vi 0, vi 0]]⟩), (400, rM g.m)], 408⟩) (weak_ren [(400, 1)] mK (chkR_cons mK (chkR_cons mK (chkRm rfl (by decide) rfl (fun _ => rfl) (fun a => by simp [okC]) trivial))) mD mQ) ?_
    refine ev_seq fun K2 h2 => ev_rf mB ?_
    repeat refine dr_act wN mb ma mc mT mR ?_
    refine dr_nil (h2 _ (ev_ret ?_)); clear h2 h1
    exact retLR [400] (res' := [.cell 6 32, .tmp 7]) mr (.cell nT mZ ma mc mP (.tmp nT mL .nil)) rfl (by decide) rfl ⟨⟨_, rfl, rfl, rfl, rfl⟩, ⟨_, rfl, rfl, rfl, rnMap (g := cR) (fun _ => rfl) _⟩, trivial⟩
  repeat refine dr_act wG mb ma mc mT mR ?_
  repeat refine dr_act wN mb ma mc mT mR ?_
  refine dr_nil (h2 _ ?_); clear h2
  refine ev_cond _ ml (fun h => ?_) (fun h => ev_skip (h1 _ ?_))
  · have hm := of_decide_eq_true h
    have e : apM g.m w xs = none := none'.resolve_right fun k => k.2 hm
    rw [e]
    refine ev_weak (σ' := ⟨[(6, .ptr (10, none) 0 0)], [(0, bG 400 g), (10, ⟨32, 4, [[vi 0, vi 0, vi 0, vi 0]]⟩), (400, rM g.m)], 408⟩) (weak_ren [(400, 1)] mK (chkR_cons mK (chkR_cons mK (chkRm rfl (by decide) rfl (fun _ => rfl) (fun a => by simp [okC]) trivial))) mD mQ) ?_
    refine ev_seq fun K2 h2 => ev_rf mB ?_
    repeat refine dr_act wN mb ma mc mT mR ?_
    refine dr_nil (h2 _ (ev_ret ?_)); clear h2 h1
    exact retLR [400] (res' := [.cell 6 32, .tmp 7]) mr (.cell nT mZ ma mc mP (.tmp nT mL .nil)) rfl (by decide) rfl ⟨⟨_, rfl, rfl, rfl, rfl⟩, ⟨_, rfl, rfl, rfl, rnMap (g := cR) (fun _ => rfl) _⟩, trivial⟩
  have hm : ¬ (g.m.length : Int) = 16 := of_decide_eq_false h
  have hle := of_decide_eq_false hd
  clear h1 K1 h hd none'
  have e : apM g.m w xs = some (g.m ++ [padB (bytesOf g.m w ++ xs) (capN w.c (w.n + xs.length)).toNat], ⟨g.m.length, 0, w.n + xs.length, capN w.c (w.n + xs.length)⟩) := by rw [apM, if_neg (by omega), if_neg (by omega)]
  rw [e]
  have hcap := capN_le (c := w.c) (need := w.n + (xs.length : Nat)) (by omega)
  have hbl := bytesOf_length g.m w
  refine ev_seq fun K1 h1 => ev_rf mB ?_
  repeat refine dr_act wN mb ma mc mT mR ?_
  rw [w4]
  repeat refine dr_act wN mb ma mc mT mR ?_
  simp only [if_true, Bool.false_eq_true, if_false, capI]
  generalize capN w.c (w.n + (xs.length : Nat)) = cap at *
  have hpad : ovr (ovr (List.replicate cap.toNat 0) 0 (bytesOf g.m w)) w.n.toNat xs = padB (bytesOf g.m w ++ xs) cap.toNat := by
    rw [← hbl]; exact ovr_pad (by omega)
  have hpl : (padB (bytesOf g.m w ++ xs) cap.toNat).length = cap.toNat := padB_length (by rw [List.length_append]; omega)
  refine dr_act wN mb ma (by omega) mT mR ?_
  repeat refine dr_act wN mb ma mc mT mR ?_
  refine dr_nil (h1 _ ?_); clear h1
  refine ev_seq fun K1 h1 => ev_reg mB ?_
  repeat refine dr_act wN mb ma mc mT mR ?_
  refine dr_callR [1] [] wN mr mb mx (c107 g.m w hw.fits (wrap_of (by omega) (by omega))) (.ren rfl rfl (.ren rfl rfl .nil)) (hand1 mr) ⟨⟨by decide, nz⟩, Nat.le_of_ble_eq_true rfl⟩ (v := .ref (1, some (w.a.toNat, 0)) w.s.toNat w.n.toNat) rfl mT (wr1.trans mr) ?_
  refine dr_cpb (List.replicate cap.toNat 0) (bytesOf g.m w) wN mr mb ml (by rw [← rep0]; rfl) (elsRow ml mr (by omega) (bytesOf_eq hw.fits).symm) mS (by omega) mT mr fun z => ?_
  refine dr_nil ⟨fun _ => by kernel_rfl, h1 _ ?_⟩; clear h1
  refine ev_seq fun K1 h1 => ev_rf mB ?_
  repeat refine dr_act wN mb ma mc mT mR ?_
  refine dr_slp (a := w.n) (c := (cap.toNat : Nat)) (v := .ref (282, none) w.n.toNat (cap.toNat - w.n.toNat)) wN mr mb ml mr mr mr mS (by omega) (by simp only [Nat.zero_add, Int.toNat_natCast]) mT ?_
  repeat refine dr_act wN mb ma mc mT mR ?_
  refine dr_cpb (ovr (List.replicate cap.toNat 0) 0 (bytesOf g.m w)) xs wN mr mb ml mr (by simp only [En_nt, lookO, lookT, Nat.reduceEqDiff, Nat.reduceLT, ↓reduceIte]; rfl) mS (by omega) mT mr fun z => ?_
  rw [hpad]
  refine dr_nil (h1 _ ?_); clear h1
  refine ev_seq fun K1 h1 => ev_rf mB ?_
  repeat refine dr_act wN mb ma mc mT mR ?_
  refine dr_act wN mb ma (by exact ⟨⟨by decide, by decide, fun x hx => by simp at hx; subst hx; rfl⟩, ⟨hpl.symm, okBn⟩, by decide⟩) mT mR ?_
  refine dr_act wN mb ma (by exact ⟨by simp only [maxLen]; omega, by omega⟩) mT mR ?_
  repeat refine dr_act wN mb ma mc mT mR ?_
  refine dr_nil (h1 _ ?_); clear h1
  have w5 : IntKind.i64.wrap (((g.m.length + 1 : Nat) : Int) - 1) = (g.m.length : Nat) := by rw [wrap_of (by omega) (by omega)]; omega
  refine ev_seq fun K1 h1 => ev_rf mB ?_
  repeat refine dr_act wN mb ma mc mT mR ?_
  have hcc : ((cap.toNat : Nat) : Int) = cap := by omega
  rw [w5, hcc]
  refine dr_nil (h1 _ (ev_ret ?_)); clear h1
  refine retLR [458] (res' := [.cell 6 32, .tmp 7]) mr (.cell nT mZ ma mc mP (.tmp nT mL .nil)) rfl (by decide) rfl ⟨⟨_, rfl, rfl, rfl, ?_⟩, ⟨_, rfl, rfl, rfl, ?_⟩, trivial⟩
  · simp only [bG, cG, memO, List.length_append, List.length_cons, List.length_nil]; rfl
  · refine Eq.trans ?_ (rnMap (g := cR) (fun _ => rfl) (g.m ++ [padB (bytesOf g.m w ++ xs) cap.toNat]))
    rw [List.map_append]; rfl
end Go.Ev
namespace Go.Ev
open Go Go.RowKit Go.Proofs

theorem mRd {p : Prop} (h : p := by simp only [dropR, Nat.reduceEqDiff, ↓reduceIte] <;> rfl) : p := h

theorem rnR_bG {n0 n1 b : Nat} {g : Gp} : rnR (upN [n0, n1] b) (bG 2 g) = bG b g := rfl

/-- What a call leaves that is handed a gap and its memory, and makes the memory a new one. -/
theorem wr3 {R : List (Nat × Root)} {n0 n1 b : Nat} {zs : List Nat} {g : Gp} : applyW R (wrR [n0, n1] zs b [some (bG 2 g), none, some (rM g.m)]) = (b, rM g.m) :: dropR (dropR ((n0, bG b g) :: dropR (applyW R (zs.map fun z => (z, none))) n0) n1) b := by
  have h : ∀ (ws : List (Nat × Option Root)) (R : List (Nat × Root)) (vs : List (Nat × Option Root)), applyW R (ws ++ vs) = applyW (applyW R ws) vs := by
    intro ws
    induction ws with
    | nil => intro R vs; rfl
    | cons w ws ih =>
      intro R vs
      obtain ⟨n, x⟩ := w
      cases x with
      | none => exact ih _ _
      | some x => exact ih _ _
  rw [wrR, h]
  generalize applyW R (zs.map fun z => (z, none)) = R'
  simp only [newR, Option.map_some, Option.map_none, rnR_bG, rnR_rM]
  rfl

theorem hand2 {R : Rs} {n0 n1 : Nat} {g : Gp} (h0 : R n0 = some (bG n1 g)) (h1 : R n1 = some (rM g.m)) : HandL R [n0, n1] 2 [n0, n1] [bG 1 g, rM g.m] :=
  ⟨⟨_, h0, rfl, rfl, rfl, rfl⟩, ⟨_, h1, rfl, rfl, rnMap (fun _ => rfl) g.m, okMM⟩, trivial⟩

theorem apM_bytes {m m' : List (List Int)} {w w' : Win} {xs : List Int} (h : GW m w) (e : apM m w xs = some (m', w')) : ((m'.getD w'.a.toNat []).drop w'.s.toNat).take w'.n.toNat = bytesOf m w ++ xs := by
  have h0 := h.n0
  have h1 := h.n1
  have h2 := h.s0
  have h3 := h.c1
  have ha : w.a.toNat < m.length := by have := h.a0; have := h.a1; omega
  have hb := bytesOf_length m w
  unfold apM at e
  split at e
  · rename_i hle
    simp only [Option.some.injEq, Prod.mk.injEq] at e
    obtain ⟨rfl, rfl⟩ := e
    show (((wrM m w.a.toNat (w.s + w.n).toNat xs).getD w.a.toNat []).drop w.s.toNat).take (w.n + (xs.length : Nat)).toNat = _
    rw [wrM, getD_set ha, bytesOf_eq h.fits]
    generalize m.getD w.a.toNat [] = r at *
    have e1 : (w.s + w.n).toNat = w.s.toNat + w.n.toNat := by omega
    have e2 : (w.n + (xs.length : Nat)).toNat = w.n.toNat + xs.length := by omega
    rw [e1, e2, ovr, List.append_assoc, List.drop_append, List.length_take]
    rw [show w.s.toNat - min (w.s.toNat + w.n.toNat) r.length = 0 by omega, List.drop_zero, List.drop_take, List.take_append, List.length_take, List.length_drop]
    rw [show w.s.toNat + w.n.toNat - w.s.toNat = w.n.toNat by omega, show w.n.toNat + xs.length - min w.n.toNat (r.length - w.s.toNat) = xs.length by omega, List.take_take, Nat.min_eq_right (by omega), List.take_append_of_le_length (Nat.le_refl _), List.take_length]
  · split at e
    · cases e
    · rename_i hle hno
      simp only [Option.some.injEq, Prod.mk.injEq] at e
      obtain ⟨rfl, rfl⟩ := e
      have e1 : (m ++ [padB (bytesOf m w ++ xs) (capN w.c (w.n + (xs.length : Nat))).toNat]).getD (m.length : Int).toNat [] = padB (bytesOf m w ++ xs) (capN w.c (w.n + (xs.length : Nat))).toNat := by
        simp [List.getD_eq_getElem?_getD]
      show (((m ++ [padB (bytesOf m w ++ xs) (capN w.c (w.n + (xs.length : Nat))).toNat]).getD (m.length : Int).toNat []).drop (0 : Int).toNat).take (w.n + (xs.length : Nat)).toNat = _
      rw [e1, padB]
      show ((bytesOf m w ++ xs ++ _).drop 0).take _ = _
      rw [List.drop_zero, List.take_append_of_le_length (by rw [List.length_append]; omega), List.take_of_length_le (by rw [List.length_append]; omega)]

theorem apM_sub {m m' : List (List Int)} {w w' : Win} {xs : List Int} {q : Nat} (h : GW m w) (e : apM m w xs = some (m', w')) (hq : q ≤ w.n.toNat) : ((m'.getD w'.a.toNat []).drop (w'.s.toNat + q)).take (w.n.toNat - q) = (bytesOf m w).drop q := by
  have hb := bytesOf_length m w
  have hn := (apM_GW h e).2
  have h0 := h.n0
  have k : ((((m'.getD w'.a.toNat []).drop w'.s.toNat).take w'.n.toNat).drop q).take (w.n.toNat - q) = ((bytesOf m w ++ xs).drop q).take (w.n.toNat - q) := by rw [apM_bytes h e]
  rw [List.drop_take, List.take_take, List.drop_drop, Nat.min_eq_left (by omega)] at k
  rw [k, List.drop_append_of_le_length (by omega), List.take_append_of_le_length (by rw [List.length_drop]; omega), List.take_of_length_le (by rw [List.length_drop]; omega)]
end Go.Ev
namespace Go.Ev
open Go Go.RowKit Go.Proofs

theorem c147 (g : Gp) (n : Int) (hg : GG g) (hn : 0 ≤ n) (hn2 : n ≤ 4000000) :
    GoodR Try.prog 147 [.ptr (0, none) 0 0, vi n] [bG 1 g, rM g.m] (vb (wdG g n).isSome) [some (bG 2 ((wdG g n).getD g)), none, some (rM ((wdG g n).getD g).m)] := by
  refine goodR_of (E := En 66 2) (fn := Try.f147) (by kernel_rfl) (by kernel_rfl) rfl rfl (by simp only [List.length_cons, List.length_nil]; decide) ⟨rfl, Nat.le_of_ble_eq_true rfl⟩ rfl ⟨rfl, okMM, trivial⟩ (fun C0 => ?_)
  simp only [argT, rsT, Nat.reduceAdd, List.length_cons, List.length_nil]
  refine ev_seq fun K1 h1 => ev_rf mB ?_
  repeat refine dr_act wN mb ma mc mT mR ?_
  refine dr_nil (h1 _ ?_); clear h1 K1
  refine ev_seq fun K1 h1 => ?_
  refine ev_seq fun K2 h2 => ev_rf mB ?_
  repeat refine dr_act wN mb ma mc mT mR ?_
  refine dr_nil (h2 _ ?_); clear h2
  refine ev_cond _ ml (fun h => ?_) (fun h => ev_skip (h1 _ ?_))
  · have hgt := of_decide_eq_true h
    clear h1
    have e : wdG g n = none := by rw [wdG, if_pos hgt]
    rw [e]
    refine ev_weak (σ' := ⟨[], [(0, bG 400 g), (400, rM g.m)], 408⟩) (weak_ren [(400, 1)] mK (chkR_cons mK (chkRm rfl (by decide) rfl (fun _ => rfl) (fun a => by simp [okC]) trivial)) mD mQ) ?_
    refine ev_seq fun K2 h2 => ev_rf mB ?_
    repeat refine dr_act wN mb ma mc mT mR ?_
    refine dr_nil (h2 _ (ev_ret ?_)); clear h2
    exact retRT [400] [4] (hR := ⟨⟨_, rfl, rfl, rfl, rfl⟩, ⟨_, rfl, rfl, rfl, rnMap (g := cR) (fun _ => rfl) _⟩, trivial⟩)
  have hle := of_decide_eq_false h
  have hcs := c189 g g.w (List.replicate n.toNat 0) hg.w (by rw [List.length_replicate]; omega)
  clear h1 h
  have hwn := hg.w.c64
  have hwn1 := hg.w.n1
  have hwn0 := hg.w.n0
  have hq := hg.qn
  have hq0 : 0 ≤ g.q := Int.le_trans hg.p0 hg.pq
  have w1 : IntKind.i64.wrap (g.q + n) = g.q + n := wrap_of (by omega) (by omega)
  refine ev_seq fun K1 h1 => ev_rf mB ?_
  repeat refine dr_act wN mb ma mc mT mR ?_
  refine dr_nil (h1 _ ?_); clear h1
  rcases hap : apM g.m g.w (List.replicate n.toNat 0) with _ | ⟨m', w'⟩
  · rw [hap] at hcs
    have e : wdG g n = none := by rw [wdG, if_neg hle, hap]
    rw [e]
    refine ev_seq fun K1 h1 => ev_reg mB ?_
    repeat refine dr_act wN mb ma mc mT mR ?_
    refine dr_act wN mb ma (by omega) mT mR ?_
    refine dr_callR [0, 1] [138] wN mr mb mx hcs (.ren rfl rfl (.ren rfl rfl (.frz (.cell (fB (xs := List.replicate n.toNat 0) (by rw [← rep0]; rfl) (by rw [List.drop_zero, List.take_of_length_le (by rw [List.length_replicate]; exact Nat.le_refl _)]))) .nil))) (hand2 mr mr) ⟨⟨by decide, fun z hz => by simp at hz; subst hz; decide⟩, Nat.le_of_ble_eq_true rfl⟩ (v := .tup [zW, vb false]) rfl mT (wr3.trans mRd) ?_
    repeat refine dr_act wN mb ma mc mT mR ?_
    refine dr_nil ⟨fun _ => by kernel_rfl, h1 _ ?_⟩; clear h1
    refine ev_seq fun K1 h1 => ?_
    refine ev_seq fun K2 h2 => ev_rf mB ?_
    repeat refine dr_act wN mb ma mc mT mR ?_
    refine dr_nil (h2 _ ?_); clear h2
    refine ev_cond true mlq (fun h => ?_) (fun h => by cases h)
    refine ev_seq fun K2 h2 => ev_rf mB ?_
    repeat refine dr_act wN mb ma mc mT mR ?_
    refine dr_nil (h2 _ (ev_ret ?_)); clear h2 h1
    exact retRT [146] [4] (hR := ⟨⟨_, rfl, rfl, rfl, rfl⟩, ⟨_, rfl, rfl, rfl, rnMap (g := cR) (fun _ => rfl) _⟩, trivial⟩)
  · rw [hap] at hcs
    obtain ⟨hw', hn'⟩ := apM_GW hg.w hap
    have hsub := apM_sub (q := g.q.toNat) hg.w hap (by omega)
    simp only [List.length_replicate] at hn'
    have e : wdG g n = some ⟨wrM m' w'.a.toNat (w'.s + (g.q + n)).toNat ((bytesOf g.m g.w).drop g.q.toNat), w', g.p, g.q + n⟩ := by rw [wdG, if_neg hle, hap]
    have hbl : ((bytesOf g.m g.w).drop g.q.toNat).length = g.w.n.toNat - g.q.toNat := by rw [List.length_drop, bytesOf_length]
    have k1 := hw'.n1
    have k2 := hw'.c1
    have k3 := hw'.s0
    have k4 := hw'.a0
    have k5 := hw'.a1
    have k6 := hw'.row
    rw [e]
    refine ev_seq fun K1 h1 => ev_reg mB ?_
    repeat refine dr_act wN mb ma mc mT mR ?_
    refine dr_act wN mb ma (by omega) mT mR ?_
    refine dr_callR [0, 1] [138] wN mr mb mx hcs (.ren rfl rfl (.ren rfl rfl (.frz (.cell (fB (xs := List.replicate n.toNat 0) (by rw [← rep0]; rfl) (by rw [List.drop_zero, List.take_of_length_le (by rw [List.length_replicate]; exact Nat.le_refl _)]))) .nil))) (hand2 mr mr) ⟨⟨by decide, fun z hz => by simp at hz; subst hz; decide⟩, Nat.le_of_ble_eq_true rfl⟩ (v := .tup [eW w', vb true]) rfl mT (wr3.trans mRd) ?_
    repeat refine dr_act wN mb ma mc mT mR ?_
    refine dr_nil ⟨fun _ => by kernel_rfl, h1 _ ?_⟩; clear h1
    refine ev_seq fun K1 h1 => ?_
    refine ev_seq fun K2 h2 => ev_rf mB ?_
    repeat refine dr_act wN mb ma mc mT mR ?_
    refine dr_nil (h2 _ ?_); clear h2
    refine ev_cond false mlq (fun h => by cases h) (fun h => ev_skip (h1 _ ?_)); clear h1
    refine ev_seq fun K1 h1 => ev_reg mB ?_
    repeat refine dr_act wN mb ma mc mT mR ?_
    refine dr_callR [146] [] wN mr mb mx (c107 m' w' hw'.fits (wrap_of (by omega) (by omega))) (.ren rfl rfl (.ren rfl rfl .nil)) (hand1 mr) ⟨⟨by decide, nz⟩, Nat.le_of_ble_eq_true rfl⟩ (v := .ref (146, some (w'.a.toNat, 0)) w'.s.toNat w'.n.toNat) rfl mT (wr1.trans mRd) ?_
    repeat refine dr_act wN mb ma mc mT mR ?_
    refine dr_nil ⟨fun _ => by kernel_rfl, h1 _ ?_⟩; clear h1
    refine ev_seq fun K1 h1 => ev_reg mB ?_
    repeat refine dr_act wN mb ma mc mT mR ?_
    rw [w1]
    refine dr_slr (g.q + n) (w'.n.toNat : Nat) wN mr mb ml mr (by omega) mr mr mS (by omega) mT ?_
    repeat refine dr_act wN mb ma mc mT mR ?_
    refine dr_slr g.q g.w.n wN mr mb ml mr (by omega) mr mr mS (by omega) mT ?_
    refine dr_cpr ((bytesOf g.m g.w).drop g.q.toNat) wN mr mb ml mr (by omega) (elsRow ml mr (by omega) hsub) mS (by rw [hbl]; simp only [Int.toNat_natCast]; omega) mT mRd fun z => ?_
    refine dr_nil ⟨fun _ => by kernel_rfl, h1 _ ?_⟩; clear h1
    rw [show w'.s.toNat + (g.q + n).toNat = (w'.s + (g.q + n)).toNat by omega]
    refine ev_seq fun K1 h1 => ev_reg mB ?_
    repeat refine dr_act wN mb ma mc mT mR ?_
    rw [w1]
    refine dr_nil ⟨fun _ => by kernel_rfl, h1 _ ?_⟩; clear h1
    refine ev_seq fun K1 h1 => ev_rf mB ?_
    repeat refine dr_act wN mb ma mc mT mR ?_
    refine dr_nil (h1 _ (ev_ret ?_)); clear h1
    refine retRT [146] [4] (hR := ⟨⟨_, rfl, rfl, rfl, ?_⟩, ⟨_, rfl, rfl, rfl, rnMap (g := cR) (fun _ => rfl) _⟩, trivial⟩)
    simp only [bG, cG, Option.getD_some, wrM_length]; rfl
end Go.Ev
namespace Go.Ev
open Go Go.RowKit Go.Proofs

theorem c88 (g : Gp) (xs : List Int) (hg : GG g) (hx : xs.length ≤ 1048576) :
    GoodR Try.prog 88 [.ptr (0, none) 0 0, eB xs] [bG 1 g, rM g.m] (vb (ptG g xs).isSome) [some (bG 2 ((ptG g xs).getD g)), none, some (rM ((ptG g xs).getD g).m)] := by
  refine goodR_of (E := En 51 2) (fn := Try.f88) (by kernel_rfl) (by kernel_rfl) rfl rfl (by simp only [List.length_cons, List.length_nil]; decide) ⟨rfl, Nat.le_of_ble_eq_true rfl⟩ rfl ⟨rfl, okMM, trivial⟩ (fun C0 => ?_)
  simp only [argT, rsT, Nat.reduceAdd, List.length_cons, List.length_nil, eB]
  have hwn := hg.w.c64
  have hwn1 := hg.w.n1
  have hwn0 := hg.w.n0
  have hq := hg.qn
  have hp0 := hg.p0
  have hpq := hg.pq
  have hs0 := hg.w.s0
  have hc1 := hg.w.c1
  have ha0 := hg.w.a0
  have ha1 := hg.w.a1
  have hrow := hg.w.row
  have w1 : IntKind.i64.wrap (g.q - g.p) = g.q - g.p := wrap_of (by omega) (by omega)
  have w2 : IntKind.i64.wrap ((xs.length : Nat) - (g.q - g.p)) = (xs.length : Nat) - (g.q - g.p) := wrap_of (by omega) (by omega)
  refine ev_seq fun K1 h1 => ev_rf mB ?_
  repeat refine dr_act wN mb ma mc mT mR ?_
  refine dr_nil (h1 _ ?_); clear h1 K1
  refine ev_seq fun K1 h1 => ?_
  refine ev_seq fun K2 h2 => ev_reg mB ?_
  repeat refine dr_act wN mb ma mc mT mR ?_
  refine dr_nil ⟨fun _ => by kernel_rfl, h2 _ ?_⟩; clear h2
  rw [w1, w2]
  refine ev_seq fun K2 h2 => ev_rf mB ?_
  refine dr_act wN mb ma mc mT mR ?_
  refine dr_act wN mb ma mc mT mR ?_
  refine dr_act wN mb ma mc mT mR ?_
  cases hd : decide ((xs.length : Nat) - (g.q - g.p) > 0)
  · have hle := of_decide_eq_false hd
    iterate 4 refine dr_skip wG mT ?_
    repeat refine dr_act wN mb ma mc mT mR ?_
    refine dr_nil (h2 _ ?_); clear h2
    have e : ptG g xs = some ⟨wrM g.m g.w.a.toNat (g.w.s + g.p).toNat xs, g.w, g.p + xs.length, g.q⟩ := by rw [ptG, if_neg hle]
    rw [e] at h1 ⊢
    refine ev_cond false mlq (fun h => by cases h) (fun h => ev_skip (h1 _ ?_)); clear h1
    have w4 : IntKind.i64.wrap (g.p + (xs.length : Nat)) = g.p + (xs.length : Nat) := wrap_of (by omega) (by omega)
    refine ev_weak (σ' := ⟨[(0, .ptr (0, none) 0 0), (1, .list 1 (xs.map cB))], [(0, bG 400 g), (400, rM g.m)], 408⟩) (weak_ren [(400, 1)] mK (chkR_cons mK (chkRm rfl (by decide) rfl (fun _ => rfl) (fun a => by simp [okC]) trivial)) mD mQ) ?_
    refine ev_seq fun K1 h1 => ev_reg mB ?_
    repeat refine dr_act wN mb ma mc mT mR ?_
    refine dr_callR [400] [] wN mr mb mx (c107 g.m g.w hg.w.fits (wrap_of (by omega) (by omega))) (.ren rfl rfl (.ren rfl rfl .nil)) (hand1 mr) ⟨⟨by decide, nz⟩, Nat.le_of_ble_eq_true rfl⟩ (v := .ref (400, some (g.w.a.toNat, 0)) g.w.s.toNat g.w.n.toNat) rfl mT (wr1.trans mRd) ?_
    repeat refine dr_act wN mb ma mc mT mR ?_
    refine dr_slr g.p (g.w.n.toNat : Nat) wN mr mb ml mr (by omega) mr mr mS (by omega) mT ?_
    repeat refine dr_act wN mb ma mc mT mR ?_
    refine dr_cpr xs wN mr mb ml mr (by omega) (by simp only [En_nt, lookO, lookT, Nat.reduceEqDiff, Nat.reduceLT, ↓reduceIte]; rfl) mS (by simp only [Int.toNat_natCast]; omega) mT mRd fun z => ?_
    refine dr_nil ⟨fun _ => by kernel_rfl, h1 _ ?_⟩; clear h1
    rw [show g.w.s.toNat + g.p.toNat = (g.w.s + g.p).toNat by omega]
    refine ev_seq fun K1 h1 => ev_rf mB ?_
    repeat refine dr_act wN mb ma mc mT mR ?_
    rw [w4]
    refine dr_nil (h1 _ ?_); clear h1
    refine ev_seq fun K1 h1 => ev_rf mB ?_
    repeat refine dr_act wN mb ma mc mT mR ?_
    refine dr_nil (h1 _ (ev_ret ?_)); clear h1
    refine retRT [400] [4] (hR := ⟨⟨_, rfl, rfl, rfl, ?_⟩, ⟨_, rfl, rfl, rfl, rnMap (g := cR) (fun _ => rfl) _⟩, trivial⟩)
    simp only [bG, cG, Option.getD_some, wrM_length]; rfl
  have hgt := of_decide_eq_true hd
  have hcs := c147 g ((xs.length : Nat) - (g.q - g.p)) hg (by omega) (by omega)
  rcases hwd : wdG g ((xs.length : Nat) - (g.q - g.p)) with _ | v
  · have e : ptG g xs = none := by rw [ptG, if_pos hgt, hwd]
    rw [hwd] at hcs
    rw [e] at h1 h2 ⊢
    repeat refine dr_act wG mb ma mc mT mR ?_
    refine dr_callR [0, 1] [] wG mr mb mx hcs (.ren rfl rfl (.ren rfl rfl .nil)) (hand2 mr mr) ⟨⟨by decide, nz⟩, Nat.le_of_ble_eq_true rfl⟩ (v := vb false) rfl mT (wr3.trans mRd) ?_
    refine dr_act wG mb ma mc mT mR ?_
    repeat refine dr_act wN mb ma mc mT mR ?_
    refine dr_nil (h2 _ ?_); clear h2
    refine ev_cond true mlq (fun h => ?_) (fun h => by cases h)
    refine ev_seq fun K2 h2 => ev_rf mB ?_
    repeat refine dr_act wN mb ma mc mT mR ?_
    refine dr_nil (h2 _ (ev_ret ?_)); clear h2 h1
    exact retRT [154] [4] (hR := ⟨⟨_, rfl, rfl, rfl, rfl⟩, ⟨_, rfl, rfl, rfl, rnMap (g := cR) (fun _ => rfl) _⟩, trivial⟩)
  · have e : ptG g xs = some ⟨wrM v.m v.w.a.toNat (v.w.s + v.p).toNat xs, v.w, v.p + xs.length, v.q⟩ := by rw [ptG, if_pos hgt, hwd]
    obtain ⟨gv, vp, vq, vn⟩ := wdG_GG hg (by omega) hwd
    have k1 := gv.w.n1
    have k2 := gv.w.c1
    have k3 := gv.w.s0
    have k4 := gv.qn
    have k5 := gv.w.a0
    have k6 := gv.w.a1
    have k7 := gv.w.row
    rw [hwd] at hcs
    rw [e] at h1 h2 ⊢
    repeat refine dr_act wG mb ma mc mT mR ?_
    refine dr_callR [0, 1] [] wG mr mb mx hcs (.ren rfl rfl (.ren rfl rfl .nil)) (hand2 mr mr) ⟨⟨by decide, nz⟩, Nat.le_of_ble_eq_true rfl⟩ (v := vb true) rfl mT (wr3.trans mRd) ?_
    refine dr_act wG mb ma mc mT mR ?_
    repeat refine dr_act wN mb ma mc mT mR ?_
    refine dr_nil (h2 _ ?_); clear h2
    refine ev_cond false mlq (fun h => by cases h) (fun h => ev_skip (h1 _ ?_)); clear h1
    have w4 : IntKind.i64.wrap (v.p + (xs.length : Nat)) = v.p + (xs.length : Nat) := wrap_of (by omega) (by omega)
    refine ev_weak (σ' := ⟨[(0, .ptr (0, none) 0 0), (1, .list 1 (xs.map cB))], [(0, bG 400 v), (400, rM v.m)], 408⟩) (weak_ren [(400, 154)] mK (chkR_cons mK (chkRm rfl (by decide) rfl (fun _ => rfl) (fun a => by simp [okC]) trivial)) mD mQ) ?_
    refine ev_seq fun K1 h1 => ev_reg mB ?_
    repeat refine dr_act wN mb ma mc mT mR ?_
    refine dr_callR [400] [] wN mr mb mx (c107 v.m v.w gv.w.fits (wrap_of (by omega) (by omega))) (.ren rfl rfl (.ren rfl rfl .nil)) (hand1 mr) ⟨⟨by decide, nz⟩, Nat.le_of_ble_eq_true rfl⟩ (v := .ref (400, some (v.w.a.toNat, 0)) v.w.s.toNat v.w.n.toNat) rfl mT (wr1.trans mRd) ?_
    repeat refine dr_act wN mb ma mc mT mR ?_
    refine dr_slr v.p (v.w.n.toNat : Nat) wN mr mb ml mr (by omega) mr mr mS (by omega) mT ?_
    repeat refine dr_act wN mb ma mc mT mR ?_
    refine dr_cpr xs wN mr mb ml mr (by omega) (by simp only [En_nt, lookO, lookT, Nat.reduceEqDiff, Nat.reduceLT, ↓reduceIte]; rfl) mS (by simp only [Int.toNat_natCast]; omega) mT mRd fun z => ?_
    refine dr_nil ⟨fun _ => by kernel_rfl, h1 _ ?_⟩; clear h1
    rw [show v.w.s.toNat + v.p.toNat = (v.w.s + v.p).toNat by omega]
    refine ev_seq fun K1 h1 => ev_rf mB ?_
    repeat refine dr_act wN mb ma mc mT mR ?_
    rw [w4]
    refine dr_nil (h1 _ ?_); clear h1
    refine ev_seq fun K1 h1 => ev_rf mB ?_
    repeat refine dr_act wN mb ma mc mT mR ?_
    refine dr_nil (h1 _ (ev_ret ?_)); clear h1
    refine retRT [400] [4] (hR := ⟨⟨_, rfl, rfl, rfl, ?_⟩, ⟨_, rfl, rfl, rfl, rnMap (g := cR) (fun _ => rfl) _⟩, trivial⟩)
    simp only [bG, cG, Option.getD_some, wrM_length]; rfl
end Go.Ev
namespace Go.Ev
open Go Go.RowKit Go.Proofs

theorem rnR_bG1 {n0 n1 b : Nat} {g : Gp} : rnR (upN [n0, n1] b) (bG 1 g) = bG n1 g := rfl

/-- What a call leaves that is handed a gap and its memory, and changes both in place. -/
theorem wr2 {R : List (Nat × Root)} {n0 n1 b : Nat} {g : Gp} : applyW R (wrR [n0, n1] [] b [some (bG 1 g), some (rM g.m)]) = (n1, rM g.m) :: dropR ((n0, bG n1 g) :: dropR R n0) n1 := by
  simp only [wrR, newR, Option.map_some, rnR_bG1, rnR_rM, List.map_nil, List.nil_append]
  rfl

theorem c26 (g : Gp) (e : Ed) (hl1 : g.m.length ≤ 1048576) (hl2 : ∀ r, r ∈ g.m → r.length ≤ 1048576) (hx : e.s.length ≤ 1048576) : Good Try.prog 26 [eG g, eE e] (oGC (dE g e)) (rGC (dE g e)) := by
  refine good_of (E := En 38) (fn := Try.f26) (by kernel_rfl) (by kernel_rfl) rfl rfl (by simp only [List.length_cons, List.length_nil]; decide) (fun C0 => ?_)
  simp only [argT, Nat.reduceAdd]
  refine ev_seq fun K1 h1 => ev_rf mB ?_
  repeat refine dr_act wN mb ma mc mT mR ?_
  refine dr_nil (h1 _ ?_); clear h1 K1
  refine ev_seq fun K1 h1 => ?_
  refine ev_seq fun K2 h2 => ev_reg mB ?_
  repeat refine dr_act wN mb ma mc mT mR ?_
  refine dr_callF wN mr mb mx mr (c86 g hl1 hl2) (Nat.le_of_ble_eq_true rfl) mv mT mN ?_
  cases hG : okG g
  · have hn : dE g e = none := by rw [dE, if_neg (by rw [hG]; decide)]
    rw [hn] at h1 h2 ⊢
    repeat refine dr_act wN mb ma mc mT mR ?_
    iterate 5 refine dr_skip wG mT ?_
    repeat refine dr_act wN mb ma mc mT mR ?_
    refine dr_nil ⟨fun _ => by kernel_rfl, h2 _ ?_⟩; clear h2
    refine ev_cond true mlq (fun h => ?_) (fun h => by cases h)
    refine ev_seq fun K2 h2 => ev_rf mB ?_
    repeat refine dr_act wN mb ma mc mT mR ?_
    refine dr_nil (h2 _ (ev_ret ?_)); clear h2 h1
    exact retL [] (res' := [.cell 4 34, .tmp 5, .tmp 6]) mr (.cell nT mZ ma mc mP (.tmp nT mL (.tmp nT mL .nil))) rfl mr (by decide) trivial
  have hg := okG_GG hG
  have hwn := hg.w.c64
  have hwn1 := hg.w.n1
  have hwn0 := hg.w.n0
  have hq := hg.qn
  have hp0 := hg.p0
  have hpq := hg.pq
  have hlg : lgG g = g.w.n - (g.q - g.p) := rfl
  have w1 : w64 (g.w.n - w64 (g.q - g.p)) = lgG g := by
    have : w64 (g.q - g.p) = g.q - g.p := wrap_of (by omega) (by omega)
    rw [this]; exact wrap_of (by omega) (by omega)
  repeat refine dr_act wN mb ma mc mT mR ?_
  repeat refine dr_act wG mb ma mc mT mR ?_
  refine dr_callF wG mr mb mx mr (c92 g) (Nat.le_of_ble_eq_true rfl) mv mT mN ?_
  rw [w1]
  refine dr_callF wG mr mb mx mr (c91 e (lgG g)) (Nat.le_of_ble_eq_true rfl) mv mT mN ?_
  cases hA : decide (0 ≤ e.at_ ∧ e.at_ ≤ lgG g)
  · have hn : dE g e = none := by rw [dE, if_pos hG, edG, if_neg fun h => of_decide_eq_false hA h.1]
    rw [hn] at h1 h2 ⊢
    refine dr_act wG mb ma mc mT mR ?_
    repeat refine dr_act wN mb ma mc mT mR ?_
    refine dr_nil ⟨fun _ => by kernel_rfl, h2 _ ?_⟩; clear h2
    refine ev_cond true mlq (fun h => ?_) (fun h => by cases h)
    refine ev_seq fun K2 h2 => ev_rf mB ?_
    repeat refine dr_act wN mb ma mc mT mR ?_
    refine dr_nil (h2 _ (ev_ret ?_)); clear h2 h1
    exact retL [] (res' := [.cell 4 34, .tmp 5, .tmp 6]) mr (.cell nT mZ ma mc mP (.tmp nT mL (.tmp nT mL .nil))) rfl mr (by decide) trivial
  have ha := of_decide_eq_true hA
  have w2 : w64 (lgG g - e.at_) = lgG g - e.at_ := wrap_of (by omega) (by omega)
  rw [w2]
  cases hB : decide (0 ≤ e.n ∧ e.n ≤ lgG g - e.at_)
  · have hn : dE g e = none := by rw [dE, if_pos hG, edG, if_neg fun h => of_decide_eq_false hB h.2]
    rw [hn] at h1 h2 ⊢
    refine dr_act wG mb ma mc mT mR ?_
    repeat refine dr_act wN mb ma mc mT mR ?_
    refine dr_nil ⟨fun _ => by kernel_rfl, h2 _ ?_⟩; clear h2
    refine ev_cond true mlq (fun h => ?_) (fun h => by cases h)
    refine ev_seq fun K2 h2 => ev_rf mB ?_
    repeat refine dr_act wN mb ma mc mT mR ?_
    refine dr_nil (h2 _ (ev_ret ?_)); clear h2 h1
    exact retL [] (res' := [.cell 4 34, .tmp 5, .tmp 6]) mr (.cell nT mZ ma mc mP (.tmp nT mL (.tmp nT mL .nil))) rfl mr (by decide) trivial
  have hb := of_decide_eq_true hB
  refine dr_act wG mb ma mc mT mR ?_
  repeat refine dr_act wN mb ma mc mT mR ?_
  refine dr_nil ⟨fun _ => by kernel_rfl, h2 _ ?_⟩; clear h2
  refine ev_cond false mlq (fun h => by cases h) (fun h => ev_skip (h1 _ ?_)); clear h1
  obtain ⟨gv, vp, vq, vw⟩ := mvG_GG hg ha.1 ha.2
  have hcm := c93 g e.at_ hg ha.1 ha.2
  rw [dE, if_pos hG, edG, if_pos ⟨ha, hb⟩]
  generalize mvG g e.at_ = v at *
  generalize mvC g e.at_ = cst at *
  have w3 : IntKind.i64.wrap (v.q + e.n) = v.q + e.n := wrap_of (by omega) (by omega)
  have hgp : GG ⟨v.m, v.w, v.p, v.q + e.n⟩ := ⟨gv.w, gv.p0, by show v.p ≤ v.q + _; omega, by show v.q + e.n ≤ v.w.n; rw [vw]; omega⟩
  have hcp := c88 ⟨v.m, v.w, v.p, v.q + e.n⟩ e.s hgp hx
  refine ev_seq fun K1 h1 => ev_rf mB ?_
  repeat refine dr_act wN mb ma mc mT mR ?_
  refine dr_callF wN mr mb mx mr (c87 g hl1 hl2) (Nat.le_of_ble_eq_true rfl) mv mT mN ?_
  repeat refine dr_act wN mb ma mc mT mR ?_
  refine dr_nil (h1 _ ?_); clear h1
  refine ev_seq fun K1 h1 => ev_rf mB ?_
  repeat refine dr_act wN mb ma mc mT mR ?_
  refine dr_callR [136, 128] [] wN mr mb mx hcm (.ren rfl rfl (.ren rfl rfl .nil)) (hand2 mr mr) ⟨⟨by decide, nz⟩, Nat.le_of_ble_eq_true rfl⟩ (v := vi cst) rfl mT (wr2.trans mRd) ?_
  repeat refine dr_act wN mb ma mc mT mR ?_
  refine dr_nil (h1 _ ?_); clear h1
  refine ev_seq fun K1 h1 => ev_rf mB ?_
  repeat refine dr_act wN mb ma mc mT mR ?_
  rw [w3]
  refine dr_nil (h1 _ ?_); clear h1
  rcases hpt : ptG ⟨v.m, v.w, v.p, v.q + e.n⟩ e.s with _ | r
  · rw [hpt] at hcp
    simp only []
    refine ev_seq fun K1 h1 => ?_
    refine ev_seq fun K2 h2 => ev_rf mB ?_
    repeat refine dr_act wN mb ma mc mT mR ?_
    refine dr_callR [136, 128] [] wN mr mb mx hcp (.ren rfl rfl (.ren rfl rfl .nil)) (hand2 mr mr) ⟨⟨by decide, nz⟩, Nat.le_of_ble_eq_true rfl⟩ (v := vb false) rfl mT (wr3.trans mRd) ?_
    repeat refine dr_act wN mb ma mc mT mR ?_
    refine dr_nil (h2 _ ?_); clear h2
    refine ev_cond true mlq (fun h => ?_) (fun h => by cases h)
    refine ev_seq fun K2 h2 => ev_rf mB ?_
    repeat refine dr_act wN mb ma mc mT mR ?_
    refine dr_nil (h2 _ (ev_ret ?_)); clear h2 h1
    exact retL [] (res' := [.cell 4 34, .tmp 5, .tmp 6]) mr (.cell nT mZ ma mc mP (.tmp nT mL (.tmp nT mL .nil))) rfl mr (by decide) trivial
  · rw [hpt] at hcp
    simp only []
    refine ev_seq fun K1 h1 => ?_
    refine ev_seq fun K2 h2 => ev_rf mB ?_
    repeat refine dr_act wN mb ma mc mT mR ?_
    refine dr_callR [136, 128] [] wN mr mb mx hcp (.ren rfl rfl (.ren rfl rfl .nil)) (hand2 mr mr) ⟨⟨by decide, nz⟩, Nat.le_of_ble_eq_true rfl⟩ (v := vb true) rfl mT (wr3.trans mRd) ?_
    repeat refine dr_act wN mb ma mc mT mR ?_
    refine dr_nil (h2 _ ?_); clear h2
    refine ev_cond false mlq (fun h => by cases h) (fun h => ev_skip (h1 _ ?_)); clear h1
    refine ev_seq fun K1 h1 => ev_rf mB ?_
    repeat refine dr_act wN mb ma mc mT mR ?_
    refine dr_nil (h1 _ (ev_ret ?_)); clear h1
    exact retL [256] (res' := [.cell 4 34, .tmp 5, .tmp 6]) mr (.cell nT mZ ma mc mP (.tmp nT mL (.tmp nT mL .nil))) rfl mr (by decide) ⟨⟨mr, okRM⟩, trivial⟩
end Go.Ev
namespace Go.Ev
open Go Go.RowKit Go.Proofs

theorem c21r (m : List (List Int)) (a : Nat) (k : Int) (ha : a < m.length) (hk : 0 ≤ k) (hk2 : k + (m.getD a []).length ≤ 4000000) :
    GoodR Try.prog 21 [.ref (0, some (a, 0)) 0 (m.getD a []).length, vi k] [rM m] (vi (k + (m.getD a []).length)) [some (rM (m.set a (mk8 k (m.getD a []).length)))] := by
  refine goodR_of (E := En 20 1) (fn := Try.f21) (by kernel_rfl) (by kernel_rfl) rfl rfl (by simp only [List.length_cons, List.length_nil]; decide) ⟨rfl, Nat.le_refl 1⟩ rfl ⟨okMM, trivial⟩ (fun C0 => ?_)
  simp only [argT, rsT, Nat.reduceAdd, List.length_cons, List.length_nil]
  generalize hxs : m.getD a [] = xs at *
  refine ev_seq fun K1 h1 => ev_rf mB ?_
  repeat refine dr_act wN mb ma mc mT mR ?_
  refine dr_nil (h1 _ ?_); clear h1 K1
  refine ev_seq fun K1 h1 => ?_
  refine ev_seq fun K2 h2 => ev_rf mB ?_
  repeat refine dr_act wN mb ma mc mT mR ?_
  refine dr_nil (h2 _ ?_); clear h2 K2
  refine ev_block (ev_loop (α := {i : Nat // i ≤ xs.length}) (fun i => ⟨[(0, .ref (0, some (a, 0)) 0 xs.length), (1, vi (k + (i.1 : Nat))), (5, vi i.1)], [(0, rM (m.set a (mk8 k i.1 ++ xs.drop i.1)))], 17⟩) (fun i => xs.length - i.1) ⟨0, Nat.zero_le _⟩ (weak_ren [] ?_ (chkRm rfl (by decide) ?_ (fun _ => rfl) (fun a => by simp [okC]) mK) mD mQ) (fun ⟨i, hi⟩ => ?_))
  · simp only [Int.natCast_zero, Int.add_zero]; exact mK
  · have e : m.set a (mk8 k 0 ++ xs.drop 0) = m := by
      have h := wrM_nil (m := m) (a := a) (s := 0)
      rw [wrM, ovr_nil, hxs] at h
      simpa [mk8] using h
    rw [e]
  have hmm : (mk8 k i ++ xs.drop i).length = xs.length := by simp [mk8]; omega
  have hg : (m.set a (mk8 k i ++ xs.drop i)).getD a [] = mk8 k i ++ xs.drop i := getD_set ha
  have hal : a < (m.set a (mk8 k i ++ xs.drop i)).length := by rw [List.length_set]; exact ha
  refine ev_seq fun K2 h2 => ev_seq fun K3 h3 => ev_rf mB ?_
  repeat refine dr_act wN mb ma mc mT mR ?_
  refine dr_nil (h3 _ ?_); clear h3
  refine ev_cond _ ml (fun h => ev_skip (h2 _ ?_)) (fun h => ev_exit ?_)
  · clear h1 h2
    have hlt : i < xs.length := by have := of_decide_eq_true h; omega
    refine ev_seq fun K2 h2 => ev_block (ev_seq fun K3 h3 => ev_rf mB ?_)
    repeat refine dr_act wN mb ma mc mT mR ?_
    refine dr_ixp wN mr mb ml ml (getRow mr hal) mS (by omega) (Nat.zero_add _) mT ?_
    refine dr_stp (zs := (mk8 k (i + 1) ++ xs.drop (i + 1)).map cB) (r' := rM (m.set a (mk8 k (i + 1) ++ xs.drop (i + 1)))) wN mr mb ml (getRow mr hal) mr ml ⟨rfl, rfl⟩ mZ ⟨by rw [List.length_map, Int.toNat_natCast, hg, hmm]; exact hlt, Nat.le_refl 1⟩ ?_ ?_ mT mR ?_
    · rw [Int.toNat_natCast, hg, ← mk8_set hlt]
      exact set_put 0 (by rw [hmm]; exact hlt) rfl
    · show setP (rM (m.set a (mk8 k i ++ xs.drop i))) _ _ = _
      rw [setP_row hal, List.set_set]
    refine dr_nil (h3 _ (ev_rf mB ?_)); clear h3
    repeat refine dr_act wN mb ma mc mT mR ?_
    refine dr_nil (h2 _ (ev_rf mB ?_)); clear h2
    repeat refine dr_act wN mb ma mc mT mR ?_
    refine dr_nil ⟨⟨i + 1, by omega⟩, by simp only []; omega, ?_⟩
    rw [w64p (n := xs.length) (by omega) (by omega), wk hlt hk hk2]
    exact weak_ren [] mK (chkRm rfl (by decide) rfl (fun _ => rfl) (fun a => by simp [okC]) mK) mD mQ
  · simp only [seqK, loopK, blkK, ↓reduceIte]
    refine h1 _ ?_; clear h1 h2
    have hge := of_decide_eq_false h
    obtain rfl : i = xs.length := by omega
    refine ev_seq fun K1 h1 => ev_rf mB ?_
    repeat refine dr_act wN mb ma mc mT mR ?_
    refine dr_nil (h1 _ (ev_ret ?_)); clear h1
    refine retRT [] [4] (hR := ⟨⟨_, rfl, rfl, rfl, ?_⟩, trivial⟩)
    rw [List.drop_length, List.append_nil]
    exact rnMap (g := cR) (fun _ => rfl) _

theorem tot_app : ∀ (a b : List (List Int)), tot (a ++ b) = tot a + tot b
  | [], b => by simp [tot]
  | x :: a, b => by simp only [List.cons_append, tot, tot_app a b]; omega
theorem mkM_app (r : List Int) : ∀ (a : List (List Int)) (k : Int), mkM k (a ++ [r]) = mkM k a ++ [mk8 (k + tot a) r.length]
  | [], k => by simp [mkM, tot]
  | x :: a, k => by
    simp only [List.cons_append, mkM, mkM_app r a, tot]
    congr 4
    omega

theorem take_s {m : List (List Int)} {i : Nat} (h : i < m.length) : m.take (i + 1) = m.take i ++ [m.getD i []] := by
  rw [List.take_succ_eq_append_getElem h, List.getD_eq_getElem?_getD, List.getElem?_eq_getElem h]; rfl

theorem mkM_tot : ∀ (m : List (List Int)) (k : Int), tot (mkM k m) = tot m
  | [], k => rfl
  | r :: rs, k => by simp only [mkM, tot, mkM_tot rs, mk8_len]

theorem tot_le {m : List (List Int)} {i : Nat} (h : i < m.length) : tot (m.take i) + (m.getD i []).length ≤ tot m := by
  have e : m = m.take i ++ m.drop i := (List.take_append_drop i m).symm
  have := congrArg tot e
  rw [tot_app, tot_drop h] at this
  omega

theorem c130 (m : List (List Int)) (k : Int) (hl : m.length ≤ 1048576) (hk : 0 ≤ k) (hk2 : k + tot m ≤ 4000000) :
    GoodR Try.prog 130 [.ref (0, none) 0 m.length, vi k] [rM m] (vi (k + tot m)) [some (rM (mkM k m))] := by
  refine goodR_of (E := En 19 1) (fn := Try.f130) (by kernel_rfl) (by kernel_rfl) rfl rfl (by simp only [List.length_cons, List.length_nil]; decide) ⟨rfl, Nat.le_refl 1⟩ rfl ⟨okMM, trivial⟩ (fun C0 => ?_)
  simp only [argT, rsT, Nat.reduceAdd, List.length_cons, List.length_nil]
  refine ev_seq fun K1 h1 => ev_rf mB ?_
  repeat refine dr_act wN mb ma mc mT mR ?_
  refine dr_nil (h1 _ ?_); clear h1 K1
  refine ev_seq fun K1 h1 => ?_
  refine ev_seq fun K2 h2 => ev_rf mB ?_
  repeat refine dr_act wN mb ma mc mT mR ?_
  refine dr_nil (h2 _ ?_); clear h2 K2
  refine ev_block (ev_loop (α := {i : Nat // i ≤ m.length}) (fun i => ⟨[(0, .ref (0, none) 0 m.length), (1, vi (k + (tot (m.take i.1) : Nat))), (5, vi i.1)], [(0, rM (mkM k (m.take i.1) ++ m.drop i.1))], 17⟩) (fun i => m.length - i.1) ⟨0, Nat.zero_le _⟩ (weak_ren [] ?_ (chkRm rfl (by decide) (by simp [mkM]) (fun _ => rfl) (fun a => by simp [okC]) mK) mD mQ) (fun ⟨i, hi⟩ => ?_))
  · simp only [List.take_zero, tot, Int.natCast_zero, Int.add_zero]; exact mK
  have hcl : (mkM k (m.take i) ++ m.drop i).length = m.length := by rw [List.length_append, mkM_length, List.length_take, List.length_drop]; omega
  refine ev_seq fun K2 h2 => ev_seq fun K3 h3 => ev_rf mB ?_
  repeat refine dr_act wN mb ma mc mT mR ?_
  refine dr_nil (h3 _ ?_); clear h3
  refine ev_cond _ ml (fun h => ev_skip (h2 _ ?_)) (fun h => ev_exit ?_)
  · clear h1 h2
    have hlt : i < m.length := by have := of_decide_eq_true h; omega
    have htl := tot_le hlt
    have hml : (mkM k (m.take i)).length = i := by rw [mkM_length, List.length_take]; omega
    have hci : (mkM k (m.take i) ++ m.drop i).getD i [] = m.getD i [] := by
      rw [List.getD_eq_getElem?_getD, List.getElem?_append_right (by omega), hml, Nat.sub_self, List.getElem?_drop, Nat.add_zero, ← List.getD_eq_getElem?_getD]
    have hcs := c21r (mkM k (m.take i) ++ m.drop i) i (k + (tot (m.take i) : Nat)) (by omega) (by omega) (by rw [hci]; omega)
    rw [hci] at hcs
    refine ev_seq fun K2 h2 => ev_block (ev_rf mB ?_)
    repeat refine dr_act wN mb ma mc mT mR ?_
    refine dr_ixp wN mr mb ml ml mr mS (by omega) (Nat.zero_add _) mT ?_
    refine dr_ldr wN mr mb ml mr (by omega) mZ mT ?_
    repeat refine dr_act wN mb ma mc mT mR ?_
    rw [Int.toNat_natCast, hci]
    refine dr_callR [0] [] wN mr mb mx hcs (.ren rfl rfl (.ren rfl rfl .nil)) (hand1 mr) ⟨⟨by decide, nz⟩, Nat.le_of_ble_eq_true rfl⟩ (v := vi (k + (tot (m.take i) : Nat) + (m.getD i []).length)) rfl mT (wr1.trans mRd) ?_
    repeat refine dr_act wN mb ma mc mT mR ?_
    refine dr_nil (h2 _ (ev_rf mB ?_)); clear h2
    repeat refine dr_act wN mb ma mc mT mR ?_
    refine dr_nil ⟨⟨i + 1, by omega⟩, by simp only []; omega, ?_⟩
    have e1 : k + (tot (m.take i) : Nat) + ((m.getD i []).length : Nat) = k + (tot (m.take (i + 1)) : Nat) := by
      rw [take_s hlt, tot_app]; simp only [tot]; omega
    have e2 : (mkM k (m.take i) ++ m.drop i).set i (mk8 (k + (tot (m.take i) : Nat)) (m.getD i []).length) = mkM k (m.take (i + 1)) ++ m.drop (i + 1) := by
      rw [List.set_append, if_neg (by omega), hml, Nat.sub_self, drop_cons hlt, List.set_cons_zero, take_s hlt, mkM_app, List.append_assoc]
      rfl
    rw [w64p (n := m.length) (by omega) (by omega), e1, e2]
    exact weak_ren [] mK (chkRm rfl (by decide) rfl (fun _ => rfl) (fun a => by simp [okC]) mK) mD mQ
  · simp only [seqK, loopK, blkK, ↓reduceIte]
    refine h1 _ ?_; clear h1 h2
    have hge := of_decide_eq_false h
    obtain rfl : i = m.length := by omega
    simp only [List.take_length, List.drop_length, List.append_nil]
    refine ev_seq fun K1 h1 => ev_rf mB ?_
    repeat refine dr_act wN mb ma mc mT mR ?_
    refine dr_nil (h1 _ (ev_ret ?_)); clear h1
    exact retRT [] [4] (hR := ⟨⟨_, rfl, rfl, rfl, rnMap (g := cR) (fun _ => rfl) _⟩, trivial⟩)
end Go.Ev
namespace Go.Ev
open Go Go.RowKit Go.Proofs

theorem c63 (m : List (List Int)) (k : Int) (hl : m.length ≤ 1048576) (hk : 0 ≤ k) (hk2 : k + tot m ≤ 4000000) :
    GoodR Try.prog 63 [oM 0 m, vi k] [rM m] (vi (k + tot m)) [some (rM (mkM k m))] := by
  refine goodR_of (E := En 10 1) (fn := Try.f63) (by kernel_rfl) (by kernel_rfl) rfl rfl (by simp only [List.length_cons, List.length_nil]; decide) ⟨rfl, Nat.le_refl 1⟩ rfl ⟨okMM, trivial⟩ (fun C0 => ?_)
  simp only [argT, rsT, Nat.reduceAdd, List.length_cons, List.length_nil]
  refine ev_seq fun K1 h1 => ev_rf mB ?_
  repeat refine dr_act wN mb ma mc mT mR ?_
  refine dr_nil (h1 _ ?_); clear h1 K1
  refine ev_seq fun K1 h1 => ev_rf mB ?_
  repeat refine dr_act wN mb ma mc mT mR ?_
  refine dr_callR [0] [] wN mr mb mx (c130 m k hl hk hk2) (.ren rfl rfl (.ren rfl rfl .nil)) (hand1 mr) ⟨⟨by decide, nz⟩, Nat.le_of_ble_eq_true rfl⟩ (v := vi (k + tot m)) rfl mT (wr1.trans mRd) ?_
  repeat refine dr_act wN mb ma mc mT mR ?_
  refine dr_nil (h1 _ ?_); clear h1
  refine ev_seq fun K1 h1 => ev_rf mB ?_
  repeat refine dr_act wN mb ma mc mT mR ?_
  refine dr_nil (h1 _ (ev_ret ?_)); clear h1
  exact retRT [] [4] (hR := ⟨⟨_, rfl, rfl, rfl, rnMap (g := cR) (fun _ => rfl) _⟩, trivial⟩)

theorem c20 (g : Gp) (k : Int) (hl : g.m.length ≤ 1048576) (hk : 0 ≤ k) (hk2 : k + tot g.m ≤ 4000000) :
    GoodR Try.prog 20 [oG 0 g, vi k] [rM g.m] (vi (k + tot g.m)) [some (rM (mkM k g.m))] := by
  refine goodR_of (E := En 10 1) (fn := Try.f20) (by kernel_rfl) (by kernel_rfl) rfl rfl (by simp only [List.length_cons, List.length_nil]; decide) ⟨rfl, Nat.le_refl 1⟩ rfl ⟨okMM, trivial⟩ (fun C0 => ?_)
  simp only [argT, rsT, Nat.reduceAdd, List.length_cons, List.length_nil]
  refine ev_seq fun K1 h1 => ev_rf mB ?_
  repeat refine dr_act wN mb ma mc mT mR ?_
  refine dr_nil (h1 _ ?_); clear h1 K1
  refine ev_seq fun K1 h1 => ev_rf mB ?_
  repeat refine dr_act wN mb ma mc mT mR ?_
  refine dr_callR [0] [] wN mr mb mx (c63 g.m k hl hk hk2) (.ren rfl rfl (.ren rfl rfl .nil)) (hand1 mr) ⟨⟨by decide, nz⟩, Nat.le_of_ble_eq_true rfl⟩ (v := vi (k + tot g.m)) rfl mT (wr1.trans mRd) ?_
  repeat refine dr_act wN mb ma mc mT mR ?_
  refine dr_nil (h1 _ ?_); clear h1
  refine ev_seq fun K1 h1 => ev_rf mB ?_
  repeat refine dr_act wN mb ma mc mT mR ?_
  refine dr_nil (h1 _ (ev_ret ?_)); clear h1
  exact retRT [] [4] (hR := ⟨⟨_, rfl, rfl, rfl, rnMap (g := cR) (fun _ => rfl) _⟩, trivial⟩)

abbrev rB (ty : TypeId) (xs : List Int) : Root := ⟨ty, 1, xs.map cB⟩
theorem okBB {xs : List Int} {bd : Nat} : (xs.map cB).all (·.all (okC false bd)) = true := okMap (fun _ => rfl) xs
theorem handB {R : Rs} {n ty : Nat} {xs : List Int} (h : R n = some (rB ty xs)) : HandL R [n] 1 [n] [rB ty xs] :=
  ⟨⟨_, h, rfl, rfl, rnMap (fun _ => rfl) xs, okBB⟩, trivial⟩
theorem rnR_rB {ρ : Nat → Nat} {ty : Nat} {xs : List Int} : rnR ρ (rB ty xs) = rB ty xs := by
  show Root.mk ty 1 ((xs.map cB).map (·.map (rnC ρ))) = _
  rw [← rnMap (fun _ => rfl)]
theorem wrB {R : List (Nat × Root)} {n b ty : Nat} {xs : List Int} : applyW R (wrR [n] [] b [some (rB ty xs)]) = (n, rB ty xs) :: dropR R n := by
  simp only [wrR, newR, upN, List.map_nil, List.nil_append, Option.map_some, rnR_rB]
  rfl

abbrev oE (n : Nat) (e : Ed) : V := .agg (cE (.ref (n, none) 0 e.s.length) e)

theorem c28 (ty : TypeId) (e : Ed) (k : Int) (hl : e.s.length ≤ 1048576) (hk : 0 ≤ k) (hk2 : k + e.s.length ≤ 4000000) :
    GoodR Try.prog 28 [oE 0 e, vi k] [rB ty e.s] (vi (k + e.s.length)) [some (rB ty (mk8 k e.s.length))] := by
  refine goodR_of (E := En 10 1) (fn := Try.f28) (by kernel_rfl) (by kernel_rfl) rfl rfl (by simp only [List.length_cons, List.length_nil]; decide) ⟨rfl, Nat.le_refl 1⟩ rfl ⟨okBB, trivial⟩ (fun C0 => ?_)
  simp only [argT, rsT, Nat.reduceAdd, List.length_cons, List.length_nil]
  refine ev_seq fun K1 h1 => ev_rf mB ?_
  repeat refine dr_act wN mb ma mc mT mR ?_
  refine dr_nil (h1 _ ?_); clear h1 K1
  refine ev_seq fun K1 h1 => ev_rf mB ?_
  repeat refine dr_act wN mb ma mc mT mR ?_
  refine dr_callR [0] [] wN mr mb mx (c21 ty e.s k hk (by omega) hl) (.ren rfl rfl (.ren rfl rfl .nil)) (handB mr) ⟨⟨by decide, nz⟩, Nat.le_of_ble_eq_true rfl⟩ (v := vi (k + e.s.length)) rfl mT (wrB.trans mRd) ?_
  repeat refine dr_act wN mb ma mc mT mR ?_
  refine dr_nil (h1 _ ?_); clear h1
  refine ev_seq fun K1 h1 => ev_rf mB ?_
  repeat refine dr_act wN mb ma mc mT mR ?_
  refine dr_nil (h1 _ (ev_ret ?_)); clear h1
  exact retRT [] [4] (hR := ⟨⟨_, rfl, rfl, rfl, rnMap (g := cB) (fun _ => rfl) _⟩, trivial⟩)
end Go.Ev
namespace Go.Ev
open Go Go.RowKit Go.Proofs
variable {P : Program}

/-- A result that is nil in one cell is an empty slice of an empty root. -/
theorem good_nilX {f : FuncId} {args : List V} {v v2 : V} {ty sz : Nat} (h : Good P f args v []) (hv : ∀ (C : Cx) (u : Value), Ext C (mkCx C C.w [] 0 ⟨ty, sz, []⟩ fun _ => none) → VR C u v → VR (mkCx C C.w [] 0 ⟨ty, sz, []⟩ fun _ => none) u v2) : Good P f args v2 [⟨ty, sz, []⟩] := by
  refine ⟨h.1, fun w F vals hF hl hw => (h.2 w F vals hF hl hw).mono ?_⟩
  rintro e w' ⟨v', C', rfl, rfl, hS, hR, hV, hB, hFn, hO, hA, hN⟩
  obtain ⟨S1, E1, F1⟩ := empty_ok (b := 0) (ty := ty) (sz := sz) hS (fun h => absurd (hA 0 h) (by simp))
  refine ⟨v', _, rfl, ?_, S1, ?_, hv C' v' E1 hV, hB, hFn, fun k hk => ?_, fun k hk => ?_, fun r hr => ?_⟩
  · rfl
  · show (fun n => if n = 0 then some (Root.mk ty sz []) else if n ∈ [] then none else C'.R n) = _
    funext n
    rw [hR]
    cases n with
    | zero => rfl
    | succ n => simp
  · rcases F1.own k hk with h1 | h1
    · exact hO k h1
    · exact Nat.le_trans hB.size h1
  · rcases hk with h1 | rfl
    · exact absurd (hA k h1) (by simp)
    · simp
  · simp only [List.mem_singleton] at hr
    subst hr
    rfl

abbrev gz : Gp := ⟨[], ⟨0, 0, 0, 0⟩, 0, 0⟩

theorem good_nilG {f : FuncId} {args : List V} (h : Good P f args (.tup [zG, vi 0, vb false]) []) : Good P f args (.tup [oG 0 gz, vi 0, vb false]) [rM []] := by
  refine good_nilX h fun C u he hu => ?_
  obtain ⟨vs, rfl, h1, h2⟩ := hu.tup_inv
  refine .tup h1 (fun i u c h3 h4 => ?_)
  cases i with
  | succ i => exact (h2 (i + 1) u c h3 (by simpa using h4)).ext he
  | zero =>
    simp only [List.getElem?_cons_zero, Option.some.injEq] at h4
    subst h4
    obtain ⟨us, rfl, k1, k2⟩ := (h2 0 u zG h3 rfl).agg_inv
    refine .agg k1 (fun j u' c' m1 m2 => ?_)
    cases j with
    | succ j => exact (k2 (j + 1) u' c' m1 (by simpa using m2)).ext he
    | zero =>
      simp only [List.getElem?_cons_zero, Option.some.injEq] at m2
      subst m2
      exact empty_ref (k2 0 u' _ m1 rfl)

/-- What DoEdit comes to. -/
def dR (g : Gp) (e : Ed) : Gp × Int × Bool :=
  match dE g e with
  | some (r, c) => (r, c, true)
  | none => (gz, 0, false)

theorem uni {f : FuncId} {args : List V} {g : Gp} {e : Ed} (h : Good P f args (oGC (dE g e)) (rGC (dE g e))) : Good P f args (.tup [oG 0 (dR g e).1, vi (dR g e).2.1, vb (dR g e).2.2]) [rM (dR g e).1.m] := by
  unfold dR
  cases hd : dE g e with
  | none => rw [hd] at h; exact good_nilG h
  | some rc =>
    obtain ⟨r, c⟩ := rc
    rw [hd] at h; exact h

theorem ptG_GG {g h : Gp} {xs : List Int} (hg : GG g) (e : ptG g xs = some h) : GG h := by
  have key : ∀ v : Gp, GG v → v.p + (xs.length : Nat) ≤ v.q → GG ⟨wrM v.m v.w.a.toNat (v.w.s + v.p).toNat xs, v.w, v.p + xs.length, v.q⟩ := by
    intro v gv hv
    have h1 := gv.w.n1
    have h2 := gv.w.c1
    have h3 := gv.w.s0
    have h4 := gv.qn
    have h5 := gv.p0
    exact ⟨gv.w.wr (by omega), by show 0 ≤ v.p + _; omega, hv, gv.qn⟩
  unfold ptG at e
  split at e
  · cases e
  · rename_i v hv
    simp only [Option.some.injEq] at e
    subst e
    split at hv
    · obtain ⟨k1, k2, k3, _⟩ := wdG_GG hg (by omega) hv
      exact key v k1 (by omega)
    · simp only [Option.some.injEq] at hv
      subst hv
      exact key g hg (by omega)

theorem edG_GG {g r : Gp} {e : Ed} {c : Int} (hg : GG g) (h : edG g e = some (r, c)) : GG r := by
  unfold edG at h
  split at h
  · rename_i hc
    split at h
    · cases h
    · rename_i v hv
      simp only [Option.some.injEq, Prod.mk.injEq] at h
      obtain ⟨rfl, _⟩ := h
      obtain ⟨gv, vp, vq, vw⟩ := mvG_GG hg hc.1.1 hc.1.2
      refine ptG_GG (g := ⟨(mvG g e.at_).m, (mvG g e.at_).w, (mvG g e.at_).p, (mvG g e.at_).q + e.n⟩) ⟨gv.w, gv.p0, ?_, ?_⟩ hv
      · show (mvG g e.at_).p ≤ (mvG g e.at_).q + e.n
        have := hg.pq
        omega
      · show (mvG g e.at_).q + e.n ≤ (mvG g e.at_).w.n
        have h1 : e.n ≤ (g.w.n - (g.q - g.p)) - e.at_ := hc.2.2
        rw [vw]
        omega
  · cases h

theorem dR_GM (g : Gp) (e : Ed) : GM (dR g e).1.m := by
  unfold dR
  cases hd : dE g e with
  | none => exact ⟨Nat.zero_le _, fun r hr => by simp at hr, fun r hr => by simp at hr⟩
  | some rc =>
    obtain ⟨r, c⟩ := rc
    unfold dE at hd
    split at hd
    · rename_i hG
      exact (edG_GG (okG_GG hG) hd).w.g
    · cases hd

theorem tot_bound : ∀ (m : List (List Int)), (∀ r, r ∈ m → r.length ≤ 64) → tot m ≤ 64 * m.length
  | [], _ => Nat.le_refl 0
  | r :: rs, h => by
    have h1 := h r (by simp)
    have h2 := tot_bound rs fun x hx => h x (by simp [hx])
    simp only [tot, List.length_cons]; omega

theorem GM.tot {m : List (List Int)} (h : GM m) : tot m ≤ 1024 := by
  have := tot_bound m h.r
  have := h.l
  omega

theorem szF_bound : ∀ (m : List (List Int)) (k : Int), 0 ≤ k → 0 ≤ szF m k → (tot m : Int) ≤ k
  | [], k, h, _ => h
  | r :: rs, k, h, hs => by
    simp only [szF] at hs
    split at hs
    · omega
    · rename_i hp
      have h1 : 0 ≤ sz1 r k := by omega
      have h2 := szF_bound rs _ h1 hs
      have h3 : sz1 r k = k - r.length := by
        unfold sz1 at h1 ⊢
        split
        · rename_i hc; rw [if_pos hc] at h1; omega
        · rfl
      simp only [tot]
      omega

theorem mem_tot : ∀ (m : List (List Int)) r, r ∈ m → r.length ≤ tot m
  | x :: m, r, h => by
    simp only [tot]
    rcases List.mem_cons.1 h with rfl | h
    · omega
    · have := mem_tot m r h; omega

theorem szM_bound {m : List (List Int)} (h : 0 ≤ szM m 1048576) : m.length ≤ 1048576 ∧ (∀ r, r ∈ m → r.length ≤ 1048576) ∧ tot m ≤ 1048576 := by
  unfold szM at h
  split at h
  · omega
  · rename_i hc
    have h1 := szF_bound m _ (by omega) h
    refine ⟨by omega, fun r hr => ?_, by omega⟩
    have := mem_tot m r hr
    omega

theorem qG_self (g : Gp) : qG g g = true := by simp [qG, qW]
theorem qE_self (e : Ed) : qE e e = true := by simp [qE]

theorem mkM_mkM : ∀ (m : List (List Int)) (k : Int), mkM k (mkM k m) = mkM k m
  | [], k => rfl
  | r :: rs, k => by simp only [mkM, mk8_len, mkM_mkM rs]

/-- An own edit is read. -/
theorem fE {R : Rs} {n ty : Nat} {e : Ed} (h : R n = some (rB ty e.s)) : Frz R (oE n e) (eE e) :=
  .agg (.cons (fn rfl) (.cons (fn rfl) (.cons (fB (by rw [act_of h]) (by rw [List.drop_zero, List.take_of_length_le (Nat.le_refl _)])) .nil)))
end Go.Ev
namespace Go.Ev
open Go Go.RowKit Go.Proofs

abbrev wz : Win := ⟨0, 0, 0, 0⟩
def eWS (ws : List Win) : V := .list 4 (ws.map cW)
abbrev rWS (ws : List Win) : Root := ⟨32, 4, ws.map cW⟩

instance : DecidableEq Win := fun a b => decidable_of_iff (a.a = b.a ∧ a.s = b.s ∧ a.n = b.n ∧ a.c = b.c) ⟨fun h => by cases a; cases b; simp_all, fun h => by subst h; exact ⟨rfl, rfl, rfl, rfl⟩⟩

theorem qW_eq {a b : Win} (h : qW a b = true) : a = b := by
  simp only [qW, Bool.and_eq_true, decide_eq_true_eq] at h
  cases a; cases b
  simp_all

def szWS (ws : List Win) (k : Int) : Int := if k - ws.length < 0 then -1 else k - ws.length

theorem c114 (ws : List Win) (k : Int) (hl : ws.length ≤ maxLen) (h0 : 0 ≤ k ∧ k ≤ 1048576) : Good Try.prog 114 [eWS ws, vi k] (vi (szWS ws k)) [] := by
  refine good_of (E := En 12) (fn := Try.f114) (by kernel_rfl) (by kernel_rfl) rfl rfl (by simp only [List.length_cons, List.length_nil]; decide) (fun C0 => ?_)
  have hw : IntKind.i64.wrap (k - (ws.length : Nat)) = k - (ws.length : Nat) := wrap_of (by simp only [maxLen] at hl; omega) (by omega)
  simp only [argT, Nat.reduceAdd, eWS]
  refine ev_seq fun K1 h1 => ev_rf mB ?_
  repeat refine dr_act wN mb ma mc mT mR ?_
  refine dr_nil (h1 _ ?_); clear h1 K1
  refine ev_seq fun K1 h1 => ev_rf mB ?_
  repeat refine dr_act wN mb ma mc mT mR ?_
  refine dr_nil (h1 _ ?_); clear h1 K1
  rw [hw]
  refine ev_seq fun K1 h1 => ev_seq fun K2 h2 => ev_rf mB ?_
  repeat refine dr_act wN mb ma mc mT mR ?_
  refine dr_nil (h2 _ ?_); clear h2 K2
  refine ev_cond _ ml (fun h => ?_) (fun h => ev_skip (h1 _ ?_))
  · have hlt := of_decide_eq_true h
    refine ev_seq fun K2 h2 => ev_rf mB ?_
    repeat refine dr_act wN mb ma mc mT mR ?_
    refine dr_nil (h2 _ (ev_ret ?_)); clear h2 h1
    exact retT [4] (hv := by rw [szWS, if_pos hlt]; rfl)
  · clear h1 K1
    have hge := of_decide_eq_false h
    refine ev_seq fun K2 h2 => ev_rf mB ?_
    repeat refine dr_act wN mb ma mc mT mR ?_
    refine dr_nil (h2 _ (ev_ret ?_)); clear h2
    exact retT [4] (hv := by rw [szWS, if_neg hge]; rfl)


theorem c121 (ws : List Win) (hl : ws.length ≤ 1048576) : Good Try.prog 121 [eWS ws] (.ref (0, none) 0 ws.length) [rWS ws] := by
  refine good_of (E := En 23) (fn := Try.f121) (by kernel_rfl) (by kernel_rfl) rfl rfl (by simp only [List.length_cons, List.length_nil]; decide) (fun C0 => ?_)
  simp only [argT, Nat.reduceAdd, eWS]
  refine ev_seq fun K1 h1 => ev_rf mB ?_
  repeat refine dr_act wN mb ma mc mT mR ?_
  refine dr_nil (h1 _ ?_); clear h1 K1
  refine ev_seq fun K1 h1 => ev_rf mB ?_
  repeat refine dr_act wN mb ma mc mT mR ?_
  refine dr_act wN mb ma (by omega) mT mR ?_
  repeat refine dr_act wN mb ma mc mT mR ?_
  refine dr_nil (h1 _ ?_); clear h1 K1
  refine ev_seq fun K1 h1 => ?_
  refine ev_seq fun K2 h2 => ev_rf mB ?_
  repeat refine dr_act wN mb ma mc mT mR ?_
  refine dr_nil (h2 _ ?_); clear h2 K2
  refine ev_block (ev_loop (α := {i : Nat // i ≤ ws.length}) (fun i => ⟨[(0, .list 4 (ws.map cW)), (3, .ref (24, none) 0 ws.length), (4, vi i.1)], [(24, ⟨32, 4, (soFar wz ws i.1).map cW⟩)], 48⟩) (fun i => ws.length - i.1) ⟨0, Nat.zero_le _⟩ (weak_ren [] mK (chkRm rfl (by decide) (by rw [soFar_zero, List.map_replicate]) (fun _ => rfl) (fun _ => rfl) mK) mD mQ) (fun ⟨i, hi⟩ => ?_))
  refine ev_seq fun K2 h2 => ev_seq fun K3 h3 => ev_rf mB ?_
  repeat refine dr_act wN mb ma mc mT mR ?_
  refine dr_nil (h3 _ ?_); clear h3
  refine ev_cond _ ml (fun h => ev_skip (h2 _ ?_)) (fun h => ev_exit ?_)
  · clear h1 h2
    have hlt : i < ws.length := by have := of_decide_eq_true h; omega
    refine ev_seq fun K2 h2 => ev_block (ev_rf mB ?_)
    repeat refine dr_act wN mb ma mc mT mR ?_
    refine dr_ix (wz : Win) wN mr mb ml ml mS (by omega) mT ?_
    repeat refine dr_act wN mb ma mc mT mR ?_
    refine dr_callF wN mr mb mx mr (c85 (ws.getD i wz)) (Nat.le_of_ble_eq_true rfl) mv mT mN ?_
    refine dr_ixp wN mr mb ml ml mr mS (by omega) (Nat.zero_add _) mT ?_
    refine dr_stp (zs := (soFar wz ws (i + 1)).map cW) wN mr mb ml mr mr ml ⟨rfl, rfl⟩ mZ ⟨by rw [List.length_map, Int.toNat_natCast, soFar_length hi]; exact hlt, Nat.le_refl 4⟩ ?_ mr mT mR ?_
    · rw [Int.toNat_natCast, ← soFar_set (d := wz) hlt]
      exact set_put wz (by rw [soFar_length hi]; exact hlt) rfl
    refine dr_nil (h2 _ (ev_rf mB ?_)); clear h2
    repeat refine dr_act wN mb ma mc mT mR ?_
    refine dr_nil ⟨⟨i + 1, by omega⟩, by simp only []; omega, ?_⟩
    rw [w64p (n := ws.length) (by omega) (by omega)]
    exact weak_ren [] mK (chkRm rfl (by decide) rfl (fun _ => rfl) (fun _ => rfl) mK) mD mQ
  · simp only [seqK, loopK, blkK, ↓reduceIte]
    refine h1 _ ?_; clear h1 h2
    have hge := of_decide_eq_false h
    obtain rfl : i = ws.length := by omega
    refine ev_seq fun K1 h1 => ev_rf mB ?_
    repeat refine dr_act wN mb ma mc mT mR ?_
    refine dr_nil (h1 _ (ev_ret ?_)); clear h1
    refine retR [24] [2] (hv := rfl) (hR := ⟨⟨?_, ?_⟩, trivial⟩)
    · show some (Root.mk 32 4 ((soFar wz ws ws.length).map cW)) = _
      rw [soFar_full]
    · exact pure_map fun _ => rfl

theorem c50 (a b : List Win) (hl : a.length ≤ maxLen) : Good Try.prog 50 [eWS a, eWS b] (vb (decide (a = b))) [] := by
  refine good_of (E := En 27) (fn := Try.f50) (by kernel_rfl) (by kernel_rfl) rfl rfl (by simp only [List.length_cons, List.length_nil]; decide) (fun C0 => ?_)
  simp only [argT, Nat.reduceAdd, eWS]
  refine ev_seq fun K1 h1 => ev_rf mB ?_
  repeat refine dr_act wN mb ma mc mT mR ?_
  refine dr_nil (h1 _ ?_); clear h1 K1
  refine ev_seq fun K1 h1 => ev_seq fun K2 h2 => ev_rf mB ?_
  repeat refine dr_act wN mb ma mc mT mR ?_
  refine dr_nil (h2 _ ?_); clear h2 K2
  refine ev_cond _ ml (fun h => ?_) (fun h => ev_skip (h1 _ ?_))
  · refine ev_seq fun K2 h2 => ev_rf mB ?_
    repeat refine dr_act wN mb ma mc mT mR ?_
    refine dr_nil (h2 _ (ev_ret ?_)); clear h2 h1
    have e : ¬ a = b := fun e => by subst e; simp at h
    exact retT [4] (hv := by rw [decide_eq_false e]; rfl)
  have hlen : a.length = b.length := by
    have : ((a.length : Int) = b.length) := by simpa using h
    omega
  clear h1 K1 h
  refine ev_seq fun K1 h1 => ?_
  refine ev_seq fun K2 h2 => ev_rf mB ?_
  repeat refine dr_act wN mb ma mc mT mR ?_
  refine dr_nil (h2 _ ?_); clear h2 K2
  refine ev_block (ev_loop (α := {i : Nat // i ≤ a.length ∧ a.take i = b.take i}) (fun i => ⟨[(0, .list 4 (a.map cW)), (1, .list 4 (b.map cW)), (5, vi i.1)], [], 56⟩) (fun i => a.length - i.1) ⟨0, Nat.zero_le _, rfl⟩ (weak_ren [] mK mK mD mQ) (fun ⟨i, hi, ht⟩ => ?_))
  refine ev_seq fun K2 h2 => ev_seq fun K3 h3 => ev_rf mB ?_
  repeat refine dr_act wN mb ma mc mT mR ?_
  refine dr_nil (h3 _ ?_); clear h3
  refine ev_cond _ ml (fun h => ev_skip (h2 _ ?_)) (fun h => ev_exit ?_)
  · clear h1 h2
    have hlt : i < a.length := by have := of_decide_eq_true h; omega
    refine ev_seq fun K2 h2 => ev_block (ev_seq fun K3 h3 => ev_reg mB ?_)
    repeat refine dr_act wN mb ma mc mT mR ?_
    refine dr_ix (wz : Win) wN mr mb ml ml mS (by omega) mT ?_
    repeat refine dr_act wN mb ma mc mT mR ?_
    refine dr_ix (wz : Win) wN mr mb ml ml mS (by omega) mT ?_
    repeat refine dr_act wN mb ma mc mT mR ?_
    refine dr_callF wN mr mb mx mr (c41 (a.getD i wz) (b.getD i wz)) (Nat.le_of_ble_eq_true rfl) mv mT mN ?_
    repeat refine dr_act wN mb ma mc mT mR ?_
    refine dr_nil ⟨fun _ => by kernel_rfl, h3 _ ?_⟩; clear h3
    refine ev_cond _ ml (fun h => ?_) (fun h => ev_skip ?_)
    · refine ev_seq fun K3 h3 => ev_rf mB ?_
      repeat refine dr_act wN mb ma mc mT mR ?_
      refine dr_nil (h3 _ (ev_ret ?_)); clear h3 h2
      have e : ¬ a = b := fun e => by subst e; simp at h
      exact retT [4] (hv := by rw [decide_eq_false e]; rfl)
    · have e : a.getD i wz = b.getD i wz := qW_eq (by simpa using h)
      refine h2 _ (ev_rf mB ?_); clear h2
      repeat refine dr_act wN mb ma mc mT mR ?_
      refine dr_nil ⟨⟨i + 1, hlt, take_eq_succ wz hlen hlt ht e⟩, by simp only []; omega, ?_⟩
      rw [w64p (n := a.length) hlt (by have := hl; simp only [maxLen] at this; omega)]
      exact weak_ren [] mK mK mD mQ
  · simp only [seqK, loopK, blkK, ↓reduceIte]
    refine h1 _ ?_; clear h1 h2
    have hge := of_decide_eq_false h
    obtain rfl : i = a.length := by omega
    have e : a = b := by
      rw [List.take_length] at ht
      rw [ht, hlen, List.take_length]
    refine ev_seq fun K1 h1 => ev_rf mB ?_
    repeat refine dr_act wN mb ma mc mT mR ?_
    refine dr_nil (h1 _ (ev_ret ?_)); clear h1
    exact retT [4] (hv := by rw [decide_eq_true e]; rfl)
end Go.Ev
namespace Go.Ev
open Go Go.RowKit Go.Proofs

/-- The windows that mark a list. -/
def mkW (k : Int) (n : Nat) : List Win := (List.range n).map fun j => ⟨k + 4 * (j : Nat), k + 4 * (j : Nat) + 1, k + 4 * (j : Nat) + 2, k + 4 * (j : Nat) + 3⟩
theorem mkW_len {k : Int} {n : Nat} : (mkW k n).length = n := by simp [mkW]
theorem mkW_get {k : Int} {n i : Nat} (h : i < n) : (mkW k n).getD i wz = ⟨k + 4 * (i : Nat), k + 4 * (i : Nat) + 1, k + 4 * (i : Nat) + 2, k + 4 * (i : Nat) + 3⟩ := by
  simp [mkW, List.getD_eq_getElem?_getD, h]
theorem mkW_succ {k : Int} {n : Nat} : mkW k (n + 1) = mkW k n ++ [⟨k + 4 * (n : Nat), k + 4 * (n : Nat) + 1, k + 4 * (n : Nat) + 2, k + 4 * (n : Nat) + 3⟩] := by
  rw [mkW, mkW, List.range_succ, List.map_append]; rfl

theorem c53 (ws : List Win) (k : Int) (hl : ws.length ≤ 1048576) (hk : 0 ≤ k) (hk2 : k ≤ 4000000) :
    GoodR Try.prog 53 [.ref (0, none) 0 ws.length, vi k] [rWS ws] (vi (k + 4 * (ws.length : Nat))) [some (rWS (mkW k ws.length))] := by
  refine goodR_of (E := En 41 1) (fn := Try.f53) (by kernel_rfl) (by kernel_rfl) rfl rfl (by simp only [List.length_cons, List.length_nil]; decide) ⟨rfl, Nat.le_refl 1⟩ rfl ⟨okMap (fun _ => rfl) _, trivial⟩ (fun C0 => ?_)
  simp only [argT, rsT, Nat.reduceAdd, List.length_cons, List.length_nil]
  refine ev_seq fun K1 h1 => ev_rf mB ?_
  repeat refine dr_act wN mb ma mc mT mR ?_
  refine dr_nil (h1 _ ?_); clear h1 K1
  refine ev_seq fun K1 h1 => ?_
  refine ev_seq fun K2 h2 => ev_rf mB ?_
  repeat refine dr_act wN mb ma mc mT mR ?_
  refine dr_nil (h2 _ ?_); clear h2 K2
  refine ev_block (ev_loop (α := {i : Nat // i ≤ ws.length}) (fun i => ⟨[(0, .ref (0, none) 0 ws.length), (1, vi (k + 4 * (i.1 : Nat))), (5, vi i.1)], [(0, rWS (mkW k i.1 ++ ws.drop i.1))], 17⟩) (fun i => ws.length - i.1) ⟨0, Nat.zero_le _⟩ (weak_ren [] ?_ (chkRm rfl (by decide) (by simp [mkW]) (fun _ => rfl) (fun _ => rfl) mK) mD mQ) (fun ⟨i, hi⟩ => ?_))
  · simp only [Int.natCast_zero, Int.mul_zero, Int.add_zero]; exact mK
  have hcl : (mkW k i ++ ws.drop i).length = ws.length := by rw [List.length_append, mkW_len, List.length_drop]; omega
  refine ev_seq fun K2 h2 => ev_seq fun K3 h3 => ev_rf mB ?_
  repeat refine dr_act wN mb ma mc mT mR ?_
  refine dr_nil (h3 _ ?_); clear h3
  refine ev_cond _ ml (fun h => ev_skip (h2 _ ?_)) (fun h => ev_exit ?_)
  · clear h1 h2
    have hlt : i < ws.length := by have := of_decide_eq_true h; omega
    have hci : (mkW k i ++ ws.drop i).getD i wz = ws.getD i wz := by
      rw [List.getD_eq_getElem?_getD, List.getElem?_append_right (by rw [mkW_len]; omega), mkW_len, Nat.sub_self, List.getElem?_drop, Nat.add_zero, ← List.getD_eq_getElem?_getD]
    have e1 : k + 4 * (i : Nat) + 4 = k + 4 * ((i + 1 : Nat) : Int) := by omega
    have e2 : (mkW k i ++ ws.drop i).set i ⟨k + 4 * (i : Nat), k + 4 * (i : Nat) + 1, k + 4 * (i : Nat) + 2, k + 4 * (i : Nat) + 3⟩ = mkW k (i + 1) ++ ws.drop (i + 1) := by
      rw [List.set_append, if_neg (by rw [mkW_len]; omega), mkW_len, Nat.sub_self, wdrop wz hlt, List.set_cons_zero, mkW_succ, List.append_assoc]
      rfl
    have hx0 : 0 ≤ k + 4 * (i : Nat) ∧ k + 4 * (i : Nat) ≤ 10000000 := by omega
    generalize hcur : mkW k i ++ ws.drop i = cur at *
    generalize hx : k + 4 * (i : Nat) = x at *
    generalize ws.getD i wz = w at *
    have w0 : IntKind.i64.wrap (x + 1) = x + 1 := wrap_of (by omega) (by omega)
    have w1 : IntKind.i64.wrap (x + 1 + 1) = x + 2 := by rw [wrap_of (by omega) (by omega)]; omega
    have w2 : IntKind.i64.wrap (x + 2 + 1) = x + 3 := by rw [wrap_of (by omega) (by omega)]; omega
    have w3 : IntKind.i64.wrap (x + 3 + 1) = x + 4 := by rw [wrap_of (by omega) (by omega)]; omega
    refine ev_seq fun K2 h2 => ev_block ?_
    refine ev_seq fun K3 h3 => ev_rf mB ?_
    repeat refine dr_act wN mb ma mc mT mR ?_
    refine dr_ixp wN mr mb ml ml mr mS (by omega) (Nat.zero_add _) mT ?_
    repeat refine dr_act wN mb ma mc mT mR ?_
    refine dr_stp (zs := (cur.set i ⟨x, w.s, w.n, w.c⟩).map cW) (r' := rWS (cur.set i ⟨x, w.s, w.n, w.c⟩)) wN mr mb ml mr mr ml ⟨rfl, rfl⟩ mZ ⟨by rw [List.length_map]; omega, Nat.le_of_ble_eq_true rfl⟩ ?_ rfl mT mR ?_
    · try rw [Int.toNat_natCast]
      exact set_put wz (by omega) (by rw [hci]; rfl)
    refine dr_nil (h3 _ ?_); clear h3
    refine ev_seq fun K3 h3 => ev_rf mB ?_
    repeat refine dr_act wN mb ma mc mT mR ?_
    rw [w0]
    refine dr_nil (h3 _ ?_); clear h3
    refine ev_seq fun K3 h3 => ev_rf mB ?_
    repeat refine dr_act wN mb ma mc mT mR ?_
    refine dr_ixp wN mr mb ml ml mr mS (by omega) (Nat.zero_add _) mT ?_
    repeat refine dr_act wN mb ma mc mT mR ?_
    refine dr_stp (zs := (cur.set i ⟨x, x + 1, w.n, w.c⟩).map cW) (r' := rWS (cur.set i ⟨x, x + 1, w.n, w.c⟩)) wN mr mb ml mr mr ml ⟨rfl, rfl⟩ mZ ⟨by rw [List.length_map, List.length_set]; omega, Nat.le_of_ble_eq_true rfl⟩ ?_ rfl mT mR ?_
    · try rw [Int.toNat_natCast]
      rw [show cur.set i ⟨x, x + 1, w.n, w.c⟩ = (cur.set i ⟨x, w.s, w.n, w.c⟩).set i ⟨x, x + 1, w.n, w.c⟩ by rw [List.set_set]]
      exact set_put wz (by rw [List.length_set]; omega) (by rw [getD_set (by omega)]; rfl)
    refine dr_nil (h3 _ ?_); clear h3
    refine ev_seq fun K3 h3 => ev_rf mB ?_
    repeat refine dr_act wN mb ma mc mT mR ?_
    rw [w1]
    refine dr_nil (h3 _ ?_); clear h3
    refine ev_seq fun K3 h3 => ev_rf mB ?_
    repeat refine dr_act wN mb ma mc mT mR ?_
    refine dr_ixp wN mr mb ml ml mr mS (by omega) (Nat.zero_add _) mT ?_
    repeat refine dr_act wN mb ma mc mT mR ?_
    refine dr_stp (zs := (cur.set i ⟨x, x + 1, x + 2, w.c⟩).map cW) (r' := rWS (cur.set i ⟨x, x + 1, x + 2, w.c⟩)) wN mr mb ml mr mr ml ⟨rfl, rfl⟩ mZ ⟨by rw [List.length_map, List.length_set]; omega, Nat.le_of_ble_eq_true rfl⟩ ?_ rfl mT mR ?_
    · try rw [Int.toNat_natCast]
      rw [show cur.set i ⟨x, x + 1, x + 2, w.c⟩ = (cur.set i ⟨x, x + 1, w.n, w.c⟩).set i ⟨x, x + 1, x + 2, w.c⟩ by rw [List.set_set]]
      exact set_put wz (by rw [List.length_set]; omega) (by rw [getD_set (by omega)]; rfl)
    refine dr_nil (h3 _ ?_); clear h3
    refine ev_seq fun K3 h3 => ev_rf mB ?_
    repeat refine dr_act wN mb ma mc mT mR ?_
    rw [w2]
    refine dr_nil (h3 _ ?_); clear h3
    refine ev_seq fun K3 h3 => ev_rf mB ?_
    repeat refine dr_act wN mb ma mc mT mR ?_
    refine dr_ixp wN mr mb ml ml mr mS (by omega) (Nat.zero_add _) mT ?_
    repeat refine dr_act wN mb ma mc mT mR ?_
    refine dr_stp (zs := (cur.set i ⟨x, x + 1, x + 2, x + 3⟩).map cW) (r' := rWS (cur.set i ⟨x, x + 1, x + 2, x + 3⟩)) wN mr mb ml mr mr ml ⟨rfl, rfl⟩ mZ ⟨by rw [List.length_map, List.length_set]; omega, Nat.le_of_ble_eq_true rfl⟩ ?_ rfl mT mR ?_
    · try rw [Int.toNat_natCast]
      rw [show cur.set i ⟨x, x + 1, x + 2, x + 3⟩ = (cur.set i ⟨x, x + 1, x + 2, w.c⟩).set i ⟨x, x + 1, x + 2, x + 3⟩ by rw [List.set_set]]
      exact set_put wz (by rw [List.length_set]; omega) (by rw [getD_set (by omega)]; rfl)
    refine dr_nil (h3 _ ?_); clear h3
    refine ev_rf mB ?_
    repeat refine dr_act wN mb ma mc mT mR ?_
    rw [w3]
    refine dr_nil (h2 _ ?_); clear h2
    refine ev_rf mB ?_
    repeat refine dr_act wN mb ma mc mT mR ?_
    refine dr_nil ⟨⟨i + 1, by omega⟩, by simp only []; omega, ?_⟩
    rw [w64p (n := ws.length) (by omega) (by omega), e1, e2]
    exact weak_ren [] mK (chkRm rfl (by decide) rfl (fun _ => rfl) (fun _ => rfl) mK) mD mQ
  · simp only [seqK, loopK, blkK, ↓reduceIte]
    refine h1 _ ?_; clear h1 h2
    have hge := of_decide_eq_false h
    obtain rfl : i = ws.length := by omega
    simp only [List.drop_length, List.append_nil]
    refine ev_seq fun K1 h1 => ev_rf mB ?_
    repeat refine dr_act wN mb ma mc mT mR ?_
    refine dr_nil (h1 _ (ev_ret ?_)); clear h1
    exact retRT [] [4] (hR := ⟨⟨_, rfl, rfl, rfl, rnMap (g := cW) (fun _ => rfl) _⟩, trivial⟩)

theorem take_mkW {k : Int} {ws : List Win} {i : Nat} (h : ws.take i = mkW k i) (hi : i < ws.length) (e0 : (ws.getD i wz).a = k + 4 * (i : Nat)) (e1 : (ws.getD i wz).s = k + 4 * (i : Nat) + 1) (e2 : (ws.getD i wz).n = k + 4 * (i : Nat) + 2) (e3 : (ws.getD i wz).c = k + 4 * (i : Nat) + 3) : ws.take (i + 1) = mkW k (i + 1) := by
  have e : ws.getD i wz = ws[i] := by rw [List.getD_eq_getElem?_getD, List.getElem?_eq_getElem hi]; rfl
  rw [e] at e0 e1 e2 e3
  rw [List.take_succ_eq_append_getElem hi, h, mkW_succ, ← e3, ← e2, ← e1, ← e0]

theorem c54 (ws : List Win) (k : Int) (hl : ws.length ≤ 1048576) (hk : 0 ≤ k) (hk2 : k ≤ 4000000) : Good Try.prog 54 [eWS ws, vi k] (vi (if ws = mkW k ws.length then k + 4 * (ws.length : Nat) else -1)) [] := by
  refine good_of (E := En 49) (fn := Try.f54) (by kernel_rfl) (by kernel_rfl) rfl rfl (by simp only [List.length_cons, List.length_nil]; decide) (fun C0 => ?_)
  simp only [argT, Nat.reduceAdd, eWS]
  refine ev_seq fun K1 h1 => ev_rf mB ?_
  repeat refine dr_act wN mb ma mc mT mR ?_
  refine dr_nil (h1 _ ?_); clear h1 K1
  refine ev_seq fun K1 h1 => ?_
  refine ev_seq fun K2 h2 => ev_rf mB ?_
  repeat refine dr_act wN mb ma mc mT mR ?_
  refine dr_nil (h2 _ ?_); clear h2 K2
  refine ev_block (ev_loop (α := {i : Nat // i ≤ ws.length ∧ ws.take i = mkW k i}) (fun i => ⟨[(0, .list 4 (ws.map cW)), (1, vi (k + 4 * (i.1 : Nat))), (5, vi i.1)], [], 16⟩) (fun i => ws.length - i.1) ⟨0, Nat.zero_le _, rfl⟩ (weak_ren [] ?_ mK mD mQ) (fun ⟨i, hi, ht⟩ => ?_))
  · simp only [Int.natCast_zero, Int.mul_zero, Int.add_zero]; exact mK
  refine ev_seq fun K2 h2 => ev_seq fun K3 h3 => ev_rf mB ?_
  repeat refine dr_act wN mb ma mc mT mR ?_
  refine dr_nil (h3 _ ?_); clear h3
  refine ev_cond _ ml (fun h => ev_skip (h2 _ ?_)) (fun h => ev_exit ?_)
  · clear h1 h2
    have hlt : i < ws.length := by have := of_decide_eq_true h; omega
    have hgt : ws = mkW k ws.length → ws.getD i wz = ⟨k + 4 * (i : Nat), k + 4 * (i : Nat) + 1, k + 4 * (i : Nat) + 2, k + 4 * (i : Nat) + 3⟩ := fun e => by rw [e]; exact mkW_get hlt
    have e4 : k + 4 * (i : Nat) + 4 = k + 4 * ((i + 1 : Nat) : Int) := by omega
    have hnx := take_mkW ht hlt
    have hx0 : 0 ≤ k + 4 * (i : Nat) ∧ k + 4 * (i : Nat) ≤ 10000000 := by omega
    clear h
    generalize hx : k + 4 * (i : Nat) = x at *
    have w0 : IntKind.i64.wrap (x + 1) = x + 1 := wrap_of (by omega) (by omega)
    have w1 : IntKind.i64.wrap (x + 1 + 1) = x + 2 := by rw [wrap_of (by omega) (by omega)]; omega
    have w2 : IntKind.i64.wrap (x + 2 + 1) = x + 3 := by rw [wrap_of (by omega) (by omega)]; omega
    have w3 : IntKind.i64.wrap (x + 3 + 1) = x + 4 := by rw [wrap_of (by omega) (by omega)]; omega
    refine ev_seq fun K2 h2 => ev_block ?_
    refine ev_seq fun K3 h3 => ?_
    refine ev_seq fun K4 h4 => ev_rf mB ?_
    repeat refine dr_act wN mb ma mc mT mR ?_
    refine dr_ix (wz : Win) wN mr mb ml ml mS (by omega) mT ?_
    repeat refine dr_act wN mb ma mc mT mR ?_
    refine dr_nil (h4 _ ?_); clear h4
    refine ev_cond _ ml (fun h => ?_) (fun h => ev_skip (h3 _ ?_)) <;> clear h3
    · refine ev_seq fun K4 h4 => ev_rf mB ?_
      repeat refine dr_act wN mb ma mc mT mR ?_
      refine dr_nil (h4 _ (ev_ret ?_)); clear h4 h2
      have e : ¬ ws = mkW k ws.length := fun e => by
        have h' : ¬ (ws.getD i wz).a = x := by simpa using h
        rw [hgt e] at h'
        exact h' rfl
      exact retT [4] (hv := by rw [if_neg e]; rfl)
    have e0 : (ws.getD i wz).a = x := by simpa using h
    refine ev_seq fun K3 h3 => ev_rf mB ?_
    repeat refine dr_act wN mb ma mc mT mR ?_
    rw [w0]
    refine dr_nil (h3 _ ?_); clear h3
    refine ev_seq fun K3 h3 => ?_
    refine ev_seq fun K4 h4 => ev_rf mB ?_
    repeat refine dr_act wN mb ma mc mT mR ?_
    refine dr_ix (wz : Win) wN mr mb ml ml mS (by omega) mT ?_
    repeat refine dr_act wN mb ma mc mT mR ?_
    refine dr_nil (h4 _ ?_); clear h4
    refine ev_cond _ ml (fun h => ?_) (fun h => ev_skip (h3 _ ?_)) <;> clear h3
    · refine ev_seq fun K4 h4 => ev_rf mB ?_
      repeat refine dr_act wN mb ma mc mT mR ?_
      refine dr_nil (h4 _ (ev_ret ?_)); clear h4 h2
      have e : ¬ ws = mkW k ws.length := fun e => by
        have h' : ¬ (ws.getD i wz).s = x + 1 := by simpa using h
        rw [hgt e] at h'
        exact h' rfl
      exact retT [4] (hv := by rw [if_neg e]; rfl)
    have e1 : (ws.getD i wz).s = x + 1 := by simpa using h
    refine ev_seq fun K3 h3 => ev_rf mB ?_
    repeat refine dr_act wN mb ma mc mT mR ?_
    rw [w1]
    refine dr_nil (h3 _ ?_); clear h3
    refine ev_seq fun K3 h3 => ?_
    refine ev_seq fun K4 h4 => ev_rf mB ?_
    repeat refine dr_act wN mb ma mc mT mR ?_
    refine dr_ix (wz : Win) wN mr mb ml ml mS (by omega) mT ?_
    repeat refine dr_act wN mb ma mc mT mR ?_
    refine dr_nil (h4 _ ?_); clear h4
    refine ev_cond _ ml (fun h => ?_) (fun h => ev_skip (h3 _ ?_)) <;> clear h3
    · refine ev_seq fun K4 h4 => ev_rf mB ?_
      repeat refine dr_act wN mb ma mc mT mR ?_
      refine dr_nil (h4 _ (ev_ret ?_)); clear h4 h2
      have e : ¬ ws = mkW k ws.length := fun e => by
        have h' : ¬ (ws.getD i wz).n = x + 2 := by simpa using h
        rw [hgt e] at h'
        exact h' rfl
      exact retT [4] (hv := by rw [if_neg e]; rfl)
    have e2 : (ws.getD i wz).n = x + 2 := by simpa using h
    refine ev_seq fun K3 h3 => ev_rf mB ?_
    repeat refine dr_act wN mb ma mc mT mR ?_
    rw [w2]
    refine dr_nil (h3 _ ?_); clear h3
    refine ev_seq fun K3 h3 => ?_
    refine ev_seq fun K4 h4 => ev_rf mB ?_
    repeat refine dr_act wN mb ma mc mT mR ?_
    refine dr_ix (wz : Win) wN mr mb ml ml mS (by omega) mT ?_
    repeat refine dr_act wN mb ma mc mT mR ?_
    refine dr_nil (h4 _ ?_); clear h4
    refine ev_cond _ ml (fun h => ?_) (fun h => ev_skip (h3 _ ?_)) <;> clear h3
    · refine ev_seq fun K4 h4 => ev_rf mB ?_
      repeat refine dr_act wN mb ma mc mT mR ?_
      refine dr_nil (h4 _ (ev_ret ?_)); clear h4 h2
      have e : ¬ ws = mkW k ws.length := fun e => by
        have h' : ¬ (ws.getD i wz).c = x + 3 := by simpa using h
        rw [hgt e] at h'
        exact h' rfl
      exact retT [4] (hv := by rw [if_neg e]; rfl)
    have e3 : (ws.getD i wz).c = x + 3 := by simpa using h
    refine ev_rf mB ?_
    repeat refine dr_act wN mb ma mc mT mR ?_
    rw [w3]
    refine dr_nil (h2 _ ?_); clear h2
    refine ev_rf mB ?_
    repeat refine dr_act wN mb ma mc mT mR ?_
    refine dr_nil ⟨⟨i + 1, hlt, hnx e0 e1 e2 e3⟩, by simp only []; omega, ?_⟩
    rw [w64p (n := ws.length) hlt (by omega), e4]
    exact weak_ren [] mK mK mD mQ
  · simp only [seqK, loopK, blkK, ↓reduceIte]
    refine h1 _ ?_; clear h1 h2
    have hge := of_decide_eq_false h
    obtain rfl : i = ws.length := by omega
    have e : ws = mkW k ws.length := by rw [← ht, List.take_length]
    refine ev_seq fun K1 h1 => ev_rf mB ?_
    repeat refine dr_act wN mb ma mc mT mR ?_
    refine dr_nil (h1 _ (ev_ret ?_)); clear h1
    exact retT [4] (hv := by rw [if_pos e]; rfl)
end Go.Ev
