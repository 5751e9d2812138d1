/- Part 4 of the proof: the evaluator and the contracts of functions. -/
import Derived.Below
import Derived.KernelRfl
import Derived.Laws.AppendOwn
import Derived.Laws.CopyRow
import Derived.Laws.Entries
import Derived.Laws.IdiomCopy
import Derived.Laws.MakeOwn
import Derived.Laws.OwnMore
import Derived.Orders
import Derived.Test.YtmkcbbbknbahgaaProg
import Derived.Test.YtmkcbbbknbahgaaEvW3
set_option linter.unusedVariables false
set_option linter.unusedSimpArgs false
namespace Go.Ev
open Go Go.RowKit Go.Proofs

/-- What is left of a size. -/
def sz1 (xs : List Int) (k : Int) : Int := if k - xs.length < 0 then -1 else k - xs.length

theorem c89 (xs : List Int) (k : Int) (hl : xs.length ≤ maxLen) (h0 : 0 ≤ k ∧ k ≤ 1048576) : Good Try.prog 89 [eB xs, vi k] (vi (sz1 xs k)) [] := by
  refine good_of (E := En 12) (fn := Try.f89) (by kernel_rfl) (by kernel_rfl) rfl rfl (by simp only [List.length_cons, List.length_nil]; decide) (fun C0 => ?_)
  have hw : IntKind.i64.wrap (k - (xs.length : Nat)) = k - (xs.length : Nat) := wrap_of (by simp only [maxLen] at hl; omega) (by omega)
  simp only [argT, Nat.reduceAdd, eB]
  refine ev_seq fun K1 h1 => ev_rf mB ?_
  repeat refine dr_act wN mb ma mc mT mR ?_
  refine dr_nil (h1 _ ?_); clear h1 K1
  refine ev_seq fun K1 h1 => ev_rf mB ?_
  repeat refine dr_act wN mb ma mc mT mR ?_
  refine dr_nil (h1 _ ?_); clear h1 K1
  rw [hw]
  refine ev_seq fun K1 h1 => ev_seq fun K2 h2 => ev_rf mB ?_
  repeat refine dr_act wN mb ma mc mT mR ?_
  refine dr_nil (h2 _ ?_); clear h2 K2
  refine ev_cond _ ml (fun h => ?_) (fun h => ev_skip (h1 _ ?_))
  · have hlt := of_decide_eq_true h
    refine ev_seq fun K2 h2 => ev_rf mB ?_
    repeat refine dr_act wN mb ma mc mT mR ?_
    refine dr_nil (h2 _ (ev_ret ?_)); clear h2 h1
    exact retT [4] (hv := by rw [sz1, if_pos hlt]; rfl)
  · clear h1 K1
    have hge := of_decide_eq_false h
    refine ev_seq fun K2 h2 => ev_rf mB ?_
    repeat refine dr_act wN mb ma mc mT mR ?_
    refine dr_nil (h2 _ (ev_ret ?_)); clear h2
    exact retT [4] (hv := by rw [sz1, if_neg hge]; rfl)

def szF : List (List Int) → Int → Int
  | [], k => k
  | r :: rs, k => if sz1 r k < 0 then -1 else szF rs (sz1 r k)
def szM (m : List (List Int)) (k : Int) : Int := if k - m.length < 0 then -1 else szF m (k - m.length)

theorem sz1_le {xs : List Int} {k : Int} (h : 0 ≤ sz1 xs k) : sz1 xs k ≤ k := by
  unfold sz1 at h ⊢; split at h <;> split <;> omega

theorem c113 (m : List (List Int)) (k : Int) (hl : m.length ≤ maxLen) (hr : ∀ r, r ∈ m → r.length ≤ maxLen) (h0 : 0 ≤ k ∧ k ≤ 1048576) : Good Try.prog 113 [eM m, vi k] (vi (szM m k)) [] := by
  refine good_of (E := En 27) (fn := Try.f113) (by kernel_rfl) (by kernel_rfl) rfl rfl (by simp only [List.length_cons, List.length_nil]; decide) (fun C0 => ?_)
  have hw : IntKind.i64.wrap (k - (m.length : Nat)) = k - (m.length : Nat) := wrap_of (by simp only [maxLen] at hl; omega) (by omega)
  simp only [argT, Nat.reduceAdd, eM]
  refine ev_seq fun K1 h1 => ev_rf mB ?_
  repeat refine dr_act wN mb ma mc mT mR ?_
  refine dr_nil (h1 _ ?_); clear h1 K1
  refine ev_seq fun K1 h1 => ev_rf mB ?_
  repeat refine dr_act wN mb ma mc mT mR ?_
  refine dr_nil (h1 _ ?_); clear h1 K1
  rw [hw]
  refine ev_seq fun K1 h1 => ev_seq fun K2 h2 => ev_rf mB ?_
  repeat refine dr_act wN mb ma mc mT mR ?_
  refine dr_nil (h2 _ ?_); clear h2 K2
  refine ev_cond _ ml (fun h => ?_) (fun h => ev_skip (h1 _ ?_))
  · have hlt := of_decide_eq_true h
    refine ev_seq fun K2 h2 => ev_rf mB ?_
    repeat refine dr_act wN mb ma mc mT mR ?_
    refine dr_nil (h2 _ (ev_ret ?_)); clear h2 h1
    exact retT [4] (hv := by rw [szM, if_pos hlt]; rfl)
  clear h1 K1
  have hge := of_decide_eq_false h
  have hres : szM m k = szF m (k - (m.length : Nat)) := by rw [szM, if_neg hge]
  rw [hres]
  refine ev_seq fun K1 h1 => ?_
  refine ev_seq fun K2 h2 => ev_rf mB ?_
  repeat refine dr_act wN mb ma mc mT mR ?_
  refine dr_nil (h2 _ ?_); clear h2 K2
  refine ev_block (ev_loop (α := {p : Nat × Int // p.1 ≤ m.length ∧ 0 ≤ p.2 ∧ p.2 ≤ 1048576 ∧ szF (m.drop p.1) p.2 = szF m (k - (m.length : Nat))}) (fun p => ⟨[(0, .list 1 (m.map cM)), (1, vi p.1.2), (5, vi p.1.1)], [], 72⟩) (fun p => m.length - p.1.1) ⟨(0, k - (m.length : Nat)), Nat.zero_le _, by show 0 ≤ k - _; omega, by show k - _ ≤ _; omega, rfl⟩ (weak_ren [] mK mK mD mQ) (fun ⟨(i, x), hi, hx0, hx1, hx⟩ => ?_))
  refine ev_seq fun K2 h2 => ev_seq fun K3 h3 => ev_rf mB ?_
  repeat refine dr_act wN mb ma mc mT mR ?_
  refine dr_nil (h3 _ ?_); clear h3
  refine ev_cond _ ml (fun h => ev_skip (h2 _ ?_)) (fun h => ev_exit ?_)
  · clear h1 h2
    have hlt : i < m.length := by have := of_decide_eq_true h; simp only at hi; omega
    have hd : m.drop i = m.getD i [] :: m.drop (i + 1) := by
      rw [List.drop_eq_getElem_cons hlt, List.getD_eq_getElem?_getD, List.getElem?_eq_getElem hlt]; rfl
    have hri : (m.getD i []).length ≤ maxLen := hr _ (by rw [List.getD_eq_getElem?_getD, List.getElem?_eq_getElem hlt]; exact List.getElem_mem hlt)
    simp only [hd, szF] at hx
    refine ev_seq fun K2 h2 => ev_block (ev_seq fun K3 h3 => ev_rf mB ?_)
    repeat refine dr_act wN mb ma mc mT mR ?_
    refine dr_ix ([] : List Int) wN mr mb ml ml mS (by omega) mT ?_
    repeat refine dr_act wN mb ma mc mT mR ?_
    refine dr_callF wN mr mb mx mr (c89 (m.getD i []) x hri ⟨hx0, hx1⟩) (Nat.le_of_ble_eq_true rfl) mv mT mN ?_
    repeat refine dr_act wN mb ma mc mT mR ?_
    refine dr_nil (h3 _ ?_); clear h3
    refine ev_seq fun K3 h3 => ev_rf mB ?_
    repeat refine dr_act wN mb ma mc mT mR ?_
    refine dr_nil (h3 _ ?_); clear h3
    refine ev_cond _ ml (fun h => ?_) (fun h => ev_skip ?_)
    · have hneg := of_decide_eq_true h
      refine ev_seq fun K3 h3 => ev_rf mB ?_
      repeat refine dr_act wN mb ma mc mT mR ?_
      refine dr_nil (h3 _ (ev_ret ?_)); clear h3 h2
      exact retT [4] (hv := by rw [← hx, if_pos hneg]; rfl)
    · have hpos := of_decide_eq_false h
      refine h2 _ (ev_rf mB ?_); clear h2
      repeat refine dr_act wN mb ma mc mT mR ?_
      refine dr_nil ⟨⟨(i + 1, sz1 (m.getD i []) x), hlt, by show 0 ≤ sz1 _ _; omega, by have := sz1_le (xs := m.getD i []) (k := x) (by omega); show sz1 _ _ ≤ _; omega, by rw [if_neg hpos] at hx; exact hx⟩, by simp only []; omega, ?_⟩
      rw [w64p (n := m.length) hlt (by simp only [maxLen] at hl; omega)]
      exact weak_ren [] mK mK mD mQ
  · simp only [seqK, loopK, blkK, ↓reduceIte]
    refine h1 _ ?_; clear h1 h2
    have hge := of_decide_eq_false h
    have hi' : i = m.length := by simp only at hi; omega
    simp only [hi', List.drop_length, szF] at hx
    refine ev_seq fun K1 h1 => ev_rf mB ?_
    repeat refine dr_act wN mb ma mc mT mR ?_
    refine dr_nil (h1 _ (ev_ret ?_)); clear h1
    exact retT [4] (hv := by rw [← hx]; rfl)
end Go.Ev
namespace Go.Ev
open Go Go.RowKit Go.Proofs

/-- Nothing of the memory is too long to be. -/
def Len (m : List (List Int)) : Prop := m.length ≤ maxLen ∧ ∀ r, r ∈ m → r.length ≤ maxLen

theorem szF_le : ∀ (m : List (List Int)) (k : Int), 0 ≤ k → szF m k = -1 ∨ (0 ≤ szF m k ∧ szF m k ≤ k)
  | [], k, h => .inr ⟨h, Int.le_refl k⟩
  | r :: rs, k, h => by
    simp only [szF]
    split
    · exact .inl rfl
    · have h1 : 0 ≤ sz1 r k := by omega
      have h2 := sz1_le h1
      rcases szF_le rs _ h1 with h3 | h3
      · exact .inl h3
      · exact .inr ⟨h3.1, by omega⟩

theorem szM_le (m : List (List Int)) (k : Int) (h : 0 ≤ k) : szM m k = -1 ∨ (0 ≤ szM m k ∧ szM m k ≤ k) := by
  unfold szM
  split
  · exact .inl rfl
  · rcases szF_le m (k - m.length) (by omega) with h1 | h1
    · exact .inl h1
    · exact .inr ⟨h1.1, by omega⟩

theorem c55 (m : List (List Int)) (k : Int) (hl : Len m) (h0 : 0 ≤ k ∧ k ≤ 1048576) : Good Try.prog 55 [eMem m, vi k] (vi (szM m k)) [] := by
  refine good_of (E := En 12) (fn := Try.f55) (by kernel_rfl) (by kernel_rfl) rfl rfl (by simp only [List.length_cons, List.length_nil]; decide) (fun C0 => ?_)
  simp only [argT, Nat.reduceAdd]
  refine ev_seq fun K1 h1 => ev_rf mB ?_
  repeat refine dr_act wN mb ma mc mT mR ?_
  refine dr_nil (h1 _ ?_); clear h1 K1
  refine ev_seq fun K1 h1 => ev_rf mB ?_
  repeat refine dr_act wN mb ma mc mT mR ?_
  refine dr_callF wN mr mb mx mr (c113 m k hl.1 hl.2 h0) (Nat.le_of_ble_eq_true rfl) mv mT mN ?_
  repeat refine dr_act wN mb ma mc mT mR ?_
  refine dr_nil (h1 _ ?_); clear h1 K1
  refine ev_seq fun K1 h1 => ev_seq fun K2 h2 => ev_rf mB ?_
  repeat refine dr_act wN mb ma mc mT mR ?_
  refine dr_nil (h2 _ ?_); clear h2 K2
  refine ev_cond _ ml (fun h => ?_) (fun h => ev_skip (h1 _ ?_))
  · have hlt := of_decide_eq_true h
    refine ev_seq fun K2 h2 => ev_rf mB ?_
    repeat refine dr_act wN mb ma mc mT mR ?_
    refine dr_nil (h2 _ (ev_ret ?_)); clear h2 h1
    exact retT [4] (hv := by rcases szM_le m k h0.1 with e | e <;> first | (rw [e]; rfl) | omega)
  · clear h1 K1
    refine ev_seq fun K2 h2 => ev_rf mB ?_
    repeat refine dr_act wN mb ma mc mT mR ?_
    refine dr_nil (h2 _ (ev_ret ?_)); clear h2
    exact retT [4] (hv := rfl)

theorem c13 (g : Gp) (k : Int) (hl : Len g.m) (h0 : 0 ≤ k ∧ k ≤ 1048576) : Good Try.prog 13 [eG g, vi k] (vi (szM g.m k)) [] := by
  refine good_of (E := En 12) (fn := Try.f13) (by kernel_rfl) (by kernel_rfl) rfl rfl (by simp only [List.length_cons, List.length_nil]; decide) (fun C0 => ?_)
  simp only [argT, Nat.reduceAdd]
  refine ev_seq fun K1 h1 => ev_rf mB ?_
  repeat refine dr_act wN mb ma mc mT mR ?_
  refine dr_nil (h1 _ ?_); clear h1 K1
  refine ev_seq fun K1 h1 => ev_rf mB ?_
  repeat refine dr_act wN mb ma mc mT mR ?_
  refine dr_callF wN mr mb mx mr (c55 g.m k hl h0) (Nat.le_of_ble_eq_true rfl) mv mT mN ?_
  repeat refine dr_act wN mb ma mc mT mR ?_
  refine dr_nil (h1 _ ?_); clear h1 K1
  refine ev_seq fun K1 h1 => ev_seq fun K2 h2 => ev_rf mB ?_
  repeat refine dr_act wN mb ma mc mT mR ?_
  refine dr_nil (h2 _ ?_); clear h2 K2
  refine ev_cond _ ml (fun h => ?_) (fun h => ev_skip (h1 _ ?_))
  · have hlt := of_decide_eq_true h
    refine ev_seq fun K2 h2 => ev_rf mB ?_
    repeat refine dr_act wN mb ma mc mT mR ?_
    refine dr_nil (h2 _ (ev_ret ?_)); clear h2 h1
    exact retT [4] (hv := by rcases szM_le g.m k h0.1 with e | e <;> first | (rw [e]; rfl) | omega)
  · clear h1 K1
    refine ev_seq fun K2 h2 => ev_rf mB ?_
    repeat refine dr_act wN mb ma mc mT mR ?_
    refine dr_nil (h2 _ (ev_ret ?_)); clear h2
    exact retT [4] (hv := rfl)

theorem c41 (a b : Win) : Good Try.prog 41 [eW a, eW b] (vb (decide (a.a = b.a) && decide (a.s = b.s) && decide (a.n = b.n) && decide (a.c = b.c))) [] := by
  refine good_of (E := En 25) (fn := Try.f41) (by kernel_rfl) (by kernel_rfl) rfl rfl (by simp only [List.length_cons, List.length_nil]; decide) (fun C0 => ?_)
  simp only [argT, Nat.reduceAdd]
  refine ev_seq fun K1 h1 => ev_rf mB ?_
  repeat refine dr_act wN mb ma mc mT mR ?_
  refine dr_nil (h1 _ ?_); clear h1 K1
  refine ev_seq fun K1 h1 => ev_seq fun K2 h2 => ev_rf mB ?_
  repeat refine dr_act wN mb ma mc mT mR ?_
  refine dr_nil (h2 _ ?_); clear h2 K2
  refine ev_cond _ ml (fun h => ?_) (fun h => ev_skip (h1 _ ?_))
  · refine ev_seq fun K2 h2 => ev_rf mB ?_
    repeat refine dr_act wN mb ma mc mT mR ?_
    refine dr_nil (h2 _ (ev_ret ?_)); clear h2 h1
    have e : ¬ a.a = b.a := by simpa using h
    exact retT [4] (hv := by rw [decide_eq_false e]; rfl)
  have e1 : a.a = b.a := by simpa using h
  clear h1 K1 h
  refine ev_seq fun K1 h1 => ev_seq fun K2 h2 => ev_rf mB ?_
  repeat refine dr_act wN mb ma mc mT mR ?_
  refine dr_nil (h2 _ ?_); clear h2 K2
  refine ev_cond _ ml (fun h => ?_) (fun h => ev_skip (h1 _ ?_))
  · refine ev_seq fun K2 h2 => ev_rf mB ?_
    repeat refine dr_act wN mb ma mc mT mR ?_
    refine dr_nil (h2 _ (ev_ret ?_)); clear h2 h1
    have e : ¬ a.s = b.s := by simpa using h
    exact retT [4] (hv := by rw [decide_eq_false e, decide_eq_true e1]; rfl)
  have e2 : a.s = b.s := by simpa using h
  clear h1 K1 h
  refine ev_seq fun K1 h1 => ev_seq fun K2 h2 => ev_rf mB ?_
  repeat refine dr_act wN mb ma mc mT mR ?_
  refine dr_nil (h2 _ ?_); clear h2 K2
  refine ev_cond _ ml (fun h => ?_) (fun h => ev_skip (h1 _ ?_))
  · refine ev_seq fun K2 h2 => ev_rf mB ?_
    repeat refine dr_act wN mb ma mc mT mR ?_
    refine dr_nil (h2 _ (ev_ret ?_)); clear h2 h1
    have e : ¬ a.n = b.n := by simpa using h
    exact retT [4] (hv := by rw [decide_eq_false e, decide_eq_true e1, decide_eq_true e2]; rfl)
  have e3 : a.n = b.n := by simpa using h
  clear h1 K1 h
  refine ev_seq fun K1 h1 => ev_seq fun K2 h2 => ev_rf mB ?_
  repeat refine dr_act wN mb ma mc mT mR ?_
  refine dr_nil (h2 _ ?_); clear h2 K2
  refine ev_cond _ ml (fun h => ?_) (fun h => ev_skip (h1 _ ?_))
  · refine ev_seq fun K2 h2 => ev_rf mB ?_
    repeat refine dr_act wN mb ma mc mT mR ?_
    refine dr_nil (h2 _ (ev_ret ?_)); clear h2 h1
    have e : ¬ a.c = b.c := by simpa using h
    exact retT [4] (hv := by rw [decide_eq_false e, decide_eq_true e1, decide_eq_true e2, decide_eq_true e3]; rfl)
  have e4 : a.c = b.c := by simpa using h
  clear h1 K1 h
  refine ev_seq fun K2 h2 => ev_rf mB ?_
  repeat refine dr_act wN mb ma mc mT mR ?_
  refine dr_nil (h2 _ (ev_ret ?_)); clear h2
  exact retT [4] (hv := by rw [decide_eq_true e1, decide_eq_true e2, decide_eq_true e3, decide_eq_true e4]; rfl)
end Go.Ev
namespace Go.Ev
open Go Go.RowKit Go.Proofs

theorem take_eq_succ {α : Type} [DecidableEq α] {a b : List α} {i : Nat} (d : α) (hl : a.length = b.length) (hi : i < a.length) (h : a.take i = b.take i) (e : a.getD i d = b.getD i d) : a.take (i + 1) = b.take (i + 1) := by
  have hb : i < b.length := by omega
  have e' : a[i] = b[i] := by
    rw [List.getD_eq_getElem?_getD, List.getD_eq_getElem?_getD, List.getElem?_eq_getElem hi, List.getElem?_eq_getElem hb] at e
    simpa using e
  have e1 : a.take (i + 1) = a.take i ++ [a[i]] := List.take_succ_eq_append_getElem hi
  have e2 : b.take (i + 1) = b.take i ++ [b[i]] := List.take_succ_eq_append_getElem hb
  rw [e1, e2, h, e']

theorem c19 (a b : List Int) (hl : a.length ≤ maxLen) : Good Try.prog 19 [eB a, eB b] (vb (decide (a = b))) [] := by
  refine good_of (E := En 26) (fn := Try.f19) (by kernel_rfl) (by kernel_rfl) rfl rfl (by simp only [List.length_cons, List.length_nil]; decide) (fun C0 => ?_)
  simp only [argT, Nat.reduceAdd, eB]
  refine ev_seq fun K1 h1 => ev_rf mB ?_
  repeat refine dr_act wN mb ma mc mT mR ?_
  refine dr_nil (h1 _ ?_); clear h1 K1
  refine ev_seq fun K1 h1 => ev_seq fun K2 h2 => ev_rf mB ?_
  repeat refine dr_act wN mb ma mc mT mR ?_
  refine dr_nil (h2 _ ?_); clear h2 K2
  refine ev_cond _ ml (fun h => ?_) (fun h => ev_skip (h1 _ ?_))
  · refine ev_seq fun K2 h2 => ev_rf mB ?_
    repeat refine dr_act wN mb ma mc mT mR ?_
    refine dr_nil (h2 _ (ev_ret ?_)); clear h2 h1
    have e : ¬ a = b := fun e => by subst e; simp at h
    exact retT [4] (hv := by rw [decide_eq_false e]; rfl)
  have hlen : a.length = b.length := by
    have : ((a.length : Int) = b.length) := by simpa using h
    omega
  clear h1 K1 h
  refine ev_seq fun K1 h1 => ?_
  refine ev_seq fun K2 h2 => ev_rf mB ?_
  repeat refine dr_act wN mb ma mc mT mR ?_
  refine dr_nil (h2 _ ?_); clear h2 K2
  refine ev_block (ev_loop (α := {i : Nat // i ≤ a.length ∧ a.take i = b.take i}) (fun i => ⟨[(0, .list 1 (a.map cB)), (1, .list 1 (b.map cB)), (5, vi i.1)], [], 56⟩) (fun i => a.length - i.1) ⟨0, Nat.zero_le _, rfl⟩ (weak_ren [] mK mK mD mQ) (fun ⟨i, hi, ht⟩ => ?_))
  refine ev_seq fun K2 h2 => ev_seq fun K3 h3 => ev_rf mB ?_
  repeat refine dr_act wN mb ma mc mT mR ?_
  refine dr_nil (h3 _ ?_); clear h3
  refine ev_cond _ ml (fun h => ev_skip (h2 _ ?_)) (fun h => ev_exit ?_)
  · clear h1 h2
    have hlt : i < a.length := by have := of_decide_eq_true h; omega
    refine ev_seq fun K2 h2 => ev_block (ev_seq fun K3 h3 => ev_reg mB ?_)
    repeat refine dr_act wN mb ma mc mT mR ?_
    refine dr_ix (0 : Int) wN mr mb ml ml mS (by omega) mT ?_
    repeat refine dr_act wN mb ma mc mT mR ?_
    refine dr_ix (0 : Int) wN mr mb ml ml mS (by omega) mT ?_
    repeat refine dr_act wN mb ma mc mT mR ?_
    refine dr_nil ⟨fun _ => by kernel_rfl, h3 _ ?_⟩; clear h3
    refine ev_cond _ ml (fun h => ?_) (fun h => ev_skip ?_)
    · refine ev_seq fun K3 h3 => ev_rf mB ?_
      repeat refine dr_act wN mb ma mc mT mR ?_
      refine dr_nil (h3 _ (ev_ret ?_)); clear h3 h2
      have e : ¬ a = b := fun e => by subst e; simp at h
      exact retT [4] (hv := by rw [decide_eq_false e]; rfl)
    · have e : a.getD i 0 = b.getD i 0 := by simpa using h
      refine h2 _ (ev_rf mB ?_); clear h2
      repeat refine dr_act wN mb ma mc mT mR ?_
      refine dr_nil ⟨⟨i + 1, hlt, take_eq_succ 0 hlen hlt ht e⟩, by simp only []; omega, ?_⟩
      rw [w64p (n := a.length) hlt (by simp only [maxLen] at hl; omega)]
      exact weak_ren [] mK mK mD mQ
  · simp only [seqK, loopK, blkK, ↓reduceIte]
    refine h1 _ ?_; clear h1 h2
    have hge := of_decide_eq_false h
    obtain rfl : i = a.length := by omega
    have e : a = b := by
      rw [List.take_length] at ht
      rw [ht, hlen, List.take_length]
    refine ev_seq fun K1 h1 => ev_rf mB ?_
    repeat refine dr_act wN mb ma mc mT mR ?_
    refine dr_nil (h1 _ (ev_ret ?_)); clear h1
    exact retT [4] (hv := by rw [decide_eq_true e]; rfl)

theorem c129 (a b : List (List Int)) (hl : Len a) : Good Try.prog 129 [eM a, eM b] (vb (decide (a = b))) [] := by
  refine good_of (E := En 27) (fn := Try.f129) (by kernel_rfl) (by kernel_rfl) rfl rfl (by simp only [List.length_cons, List.length_nil]; decide) (fun C0 => ?_)
  simp only [argT, Nat.reduceAdd, eM]
  refine ev_seq fun K1 h1 => ev_rf mB ?_
  repeat refine dr_act wN mb ma mc mT mR ?_
  refine dr_nil (h1 _ ?_); clear h1 K1
  refine ev_seq fun K1 h1 => ev_seq fun K2 h2 => ev_rf mB ?_
  repeat refine dr_act wN mb ma mc mT mR ?_
  refine dr_nil (h2 _ ?_); clear h2 K2
  refine ev_cond _ ml (fun h => ?_) (fun h => ev_skip (h1 _ ?_))
  · refine ev_seq fun K2 h2 => ev_rf mB ?_
    repeat refine dr_act wN mb ma mc mT mR ?_
    refine dr_nil (h2 _ (ev_ret ?_)); clear h2 h1
    have e : ¬ a = b := fun e => by subst e; simp at h
    exact retT [4] (hv := by rw [decide_eq_false e]; rfl)
  have hlen : a.length = b.length := by
    have : ((a.length : Int) = b.length) := by simpa using h
    omega
  clear h1 K1 h
  refine ev_seq fun K1 h1 => ?_
  refine ev_seq fun K2 h2 => ev_rf mB ?_
  repeat refine dr_act wN mb ma mc mT mR ?_
  refine dr_nil (h2 _ ?_); clear h2 K2
  refine ev_block (ev_loop (α := {i : Nat // i ≤ a.length ∧ a.take i = b.take i}) (fun i => ⟨[(0, .list 1 (a.map cM)), (1, .list 1 (b.map cM)), (5, vi i.1)], [], 56⟩) (fun i => a.length - i.1) ⟨0, Nat.zero_le _, rfl⟩ (weak_ren [] mK mK mD mQ) (fun ⟨i, hi, ht⟩ => ?_))
  refine ev_seq fun K2 h2 => ev_seq fun K3 h3 => ev_rf mB ?_
  repeat refine dr_act wN mb ma mc mT mR ?_
  refine dr_nil (h3 _ ?_); clear h3
  refine ev_cond _ ml (fun h => ev_skip (h2 _ ?_)) (fun h => ev_exit ?_)
  · clear h1 h2
    have hlt : i < a.length := by have := of_decide_eq_true h; omega
    have hai : (a.getD i []).length ≤ maxLen := hl.2 _ (by rw [List.getD_eq_getElem?_getD, List.getElem?_eq_getElem hlt]; exact List.getElem_mem hlt)
    refine ev_seq fun K2 h2 => ev_block (ev_seq fun K3 h3 => ev_reg mB ?_)
    repeat refine dr_act wN mb ma mc mT mR ?_
    refine dr_ix ([] : List Int) wN mr mb ml ml mS (by omega) mT ?_
    repeat refine dr_act wN mb ma mc mT mR ?_
    refine dr_ix ([] : List Int) wN mr mb ml ml mS (by omega) mT ?_
    repeat refine dr_act wN mb ma mc mT mR ?_
    refine dr_callF wN mr mb mx mr (c19 (a.getD i []) (b.getD i []) hai) (Nat.le_of_ble_eq_true rfl) mv mT mN ?_
    repeat refine dr_act wN mb ma mc mT mR ?_
    refine dr_nil ⟨fun _ => by kernel_rfl, h3 _ ?_⟩; clear h3
    refine ev_cond _ ml (fun h => ?_) (fun h => ev_skip ?_)
    · refine ev_seq fun K3 h3 => ev_rf mB ?_
      repeat refine dr_act wN mb ma mc mT mR ?_
      refine dr_nil (h3 _ (ev_ret ?_)); clear h3 h2
      have e : ¬ a = b := fun e => by subst e; simp at h
      exact retT [4] (hv := by rw [decide_eq_false e]; rfl)
    · have e : a.getD i [] = b.getD i [] := by simpa using h
      refine h2 _ (ev_rf mB ?_); clear h2
      repeat refine dr_act wN mb ma mc mT mR ?_
      refine dr_nil ⟨⟨i + 1, hlt, take_eq_succ [] hlen hlt ht e⟩, by simp only []; omega, ?_⟩
      rw [w64p (n := a.length) hlt (by have := hl.1; simp only [maxLen] at this; omega)]
      exact weak_ren [] mK mK mD mQ
  · simp only [seqK, loopK, blkK, ↓reduceIte]
    refine h1 _ ?_; clear h1 h2
    have hge := of_decide_eq_false h
    obtain rfl : i = a.length := by omega
    have e : a = b := by
      rw [List.take_length] at ht
      rw [ht, hlen, List.take_length]
    refine ev_seq fun K1 h1 => ev_rf mB ?_
    repeat refine dr_act wN mb ma mc mT mR ?_
    refine dr_nil (h1 _ (ev_ret ?_)); clear h1
    exact retT [4] (hv := by rw [decide_eq_true e]; rfl)
end Go.Ev
namespace Go.Ev
open Go Go.RowKit Go.Proofs

abbrev qW (a b : Win) : Bool := decide (a.a = b.a) && decide (a.s = b.s) && decide (a.n = b.n) && decide (a.c = b.c)
abbrev qG (a b : Gp) : Bool := decide (a.m = b.m) && qW a.w b.w && decide (a.p = b.p) && decide (a.q = b.q)

theorem c61 (a b : List (List Int)) (hl : Len a) : Good Try.prog 61 [eMem a, eMem b] (vb (decide (a = b))) [] := by
  refine good_of (E := En 11) (fn := Try.f61) (by kernel_rfl) (by kernel_rfl) rfl rfl (by simp only [List.length_cons, List.length_nil]; decide) (fun C0 => ?_)
  simp only [argT, Nat.reduceAdd]
  refine ev_seq fun K1 h1 => ev_rf mB ?_
  repeat refine dr_act wN mb ma mc mT mR ?_
  refine dr_nil (h1 _ ?_); clear h1 K1
  refine ev_seq fun K1 h1 => ev_seq fun K2 h2 => ev_rf mB ?_
  repeat refine dr_act wN mb ma mc mT mR ?_
  refine dr_callF wN mr mb mx mr (c129 a b hl) (Nat.le_of_ble_eq_true rfl) mv mT mN ?_
  repeat refine dr_act wN mb ma mc mT mR ?_
  refine dr_nil (h2 _ ?_); clear h2 K2
  refine ev_cond _ ml (fun h => ?_) (fun h => ev_skip (h1 _ ?_))
  · refine ev_seq fun K2 h2 => ev_rf mB ?_
    repeat refine dr_act wN mb ma mc mT mR ?_
    refine dr_nil (h2 _ (ev_ret ?_)); clear h2 h1
    have e : ¬ a = b := by simpa using h
    exact retT [4] (hv := by rw [decide_eq_false e]; rfl)
  have e1 : a = b := by simpa using h
  clear h1 K1 h
  refine ev_seq fun K2 h2 => ev_rf mB ?_
  repeat refine dr_act wN mb ma mc mT mR ?_
  refine dr_nil (h2 _ (ev_ret ?_)); clear h2
  exact retT [4] (hv := by rw [decide_eq_true e1]; rfl)

theorem c18 (a b : Gp) (hl : Len a.m) : Good Try.prog 18 [eG a, eG b] (vb (qG a b)) [] := by
  refine good_of (E := En 27) (fn := Try.f18) (by kernel_rfl) (by kernel_rfl) rfl rfl (by simp only [List.length_cons, List.length_nil]; decide) (fun C0 => ?_)
  simp only [argT, Nat.reduceAdd]
  refine ev_seq fun K1 h1 => ev_rf mB ?_
  repeat refine dr_act wN mb ma mc mT mR ?_
  refine dr_nil (h1 _ ?_); clear h1 K1
  refine ev_seq fun K1 h1 => ev_seq fun K2 h2 => ev_rf mB ?_
  repeat refine dr_act wN mb ma mc mT mR ?_
  refine dr_callF wN mr mb mx mr (c61 a.m b.m hl) (Nat.le_of_ble_eq_true rfl) mv mT mN ?_
  repeat refine dr_act wN mb ma mc mT mR ?_
  refine dr_nil (h2 _ ?_); clear h2 K2
  refine ev_cond _ ml (fun h => ?_) (fun h => ev_skip (h1 _ ?_))
  · refine ev_seq fun K2 h2 => ev_rf mB ?_
    repeat refine dr_act wN mb ma mc mT mR ?_
    refine dr_nil (h2 _ (ev_ret ?_)); clear h2 h1
    have e : ¬ a.m = b.m := by simpa using h
    exact retT [4] (hv := by rw [qG, decide_eq_false e]; rfl)
  have e1 : a.m = b.m := by simpa using h
  clear h1 K1 h
  refine ev_seq fun K1 h1 => ev_seq fun K2 h2 => ev_rf mB ?_
  repeat refine dr_act wN mb ma mc mT mR ?_
  refine dr_callF wN mr mb mx mr (c41 a.w b.w) (Nat.le_of_ble_eq_true rfl) mv mT mN ?_
  repeat refine dr_act wN mb ma mc mT mR ?_
  refine dr_nil (h2 _ ?_); clear h2 K2
  refine ev_cond _ ml (fun h => ?_) (fun h => ev_skip (h1 _ ?_))
  · refine ev_seq fun K2 h2 => ev_rf mB ?_
    repeat refine dr_act wN mb ma mc mT mR ?_
    refine dr_nil (h2 _ (ev_ret ?_)); clear h2 h1
    have e : qW a.w b.w = false := by have := h; rwa [Bool.not_eq_true'] at this
    have hG : qG a b = false := by rw [qG, e, decide_eq_true e1]; rfl
    exact retT [4] (hv := by rw [hG]; rfl)
  have e2 : qW a.w b.w = true := by have := h; rwa [Bool.not_eq_false'] at this
  have hG : qG a b = (true && true && decide (a.p = b.p) && decide (a.q = b.q)) := by rw [qG, e2, decide_eq_true e1]
  rw [hG]
  clear h1 K1 h
  refine ev_seq fun K1 h1 => ev_seq fun K2 h2 => ev_rf mB ?_
  repeat refine dr_act wN mb ma mc mT mR ?_
  refine dr_nil (h2 _ ?_); clear h2 K2
  refine ev_cond _ ml (fun h => ?_) (fun h => ev_skip (h1 _ ?_))
  · refine ev_seq fun K2 h2 => ev_rf mB ?_
    repeat refine dr_act wN mb ma mc mT mR ?_
    refine dr_nil (h2 _ (ev_ret ?_)); clear h2 h1
    have e : ¬ a.p = b.p := by simpa using h
    exact retT [4] (hv := by rw [decide_eq_false e]; rfl)
  have e3 : a.p = b.p := by simpa using h
  clear h1 K1 h
  refine ev_seq fun K1 h1 => ev_seq fun K2 h2 => ev_rf mB ?_
  repeat refine dr_act wN mb ma mc mT mR ?_
  refine dr_nil (h2 _ ?_); clear h2 K2
  refine ev_cond _ ml (fun h => ?_) (fun h => ev_skip (h1 _ ?_))
  · refine ev_seq fun K2 h2 => ev_rf mB ?_
    repeat refine dr_act wN mb ma mc mT mR ?_
    refine dr_nil (h2 _ (ev_ret ?_)); clear h2 h1
    have e : ¬ a.q = b.q := by simpa using h
    exact retT [4] (hv := by rw [decide_eq_false e, decide_eq_true e3]; rfl)
  have e4 : a.q = b.q := by simpa using h
  clear h1 K1 h
  refine ev_seq fun K2 h2 => ev_rf mB ?_
  repeat refine dr_act wN mb ma mc mT mR ?_
  refine dr_nil (h2 _ (ev_ret ?_)); clear h2
  exact retT [4] (hv := by rw [decide_eq_true e3, decide_eq_true e4]; rfl)

/-- An edit: from where, how much goes, what comes. -/
structure Ed where
  at_ : Int
  n : Int
  s : List Int
abbrev cE (x : V) (e : Ed) : List V := [vi e.at_, vi e.n, x]
abbrev eE (e : Ed) : V := .agg (cE (eB e.s) e)
abbrev qE (a b : Ed) : Bool := decide (a.at_ = b.at_) && decide (a.n = b.n) && decide (a.s = b.s)

theorem c27 (a b : Ed) (hl : a.s.length ≤ maxLen) : Good Try.prog 27 [eE a, eE b] (vb (qE a b)) [] := by
  refine good_of (E := En 21) (fn := Try.f27) (by kernel_rfl) (by kernel_rfl) rfl rfl (by simp only [List.length_cons, List.length_nil]; decide) (fun C0 => ?_)
  simp only [argT, Nat.reduceAdd]
  refine ev_seq fun K1 h1 => ev_rf mB ?_
  repeat refine dr_act wN mb ma mc mT mR ?_
  refine dr_nil (h1 _ ?_); clear h1 K1
  refine ev_seq fun K1 h1 => ev_seq fun K2 h2 => ev_rf mB ?_
  repeat refine dr_act wN mb ma mc mT mR ?_
  refine dr_nil (h2 _ ?_); clear h2 K2
  refine ev_cond _ ml (fun h => ?_) (fun h => ev_skip (h1 _ ?_))
  · refine ev_seq fun K2 h2 => ev_rf mB ?_
    repeat refine dr_act wN mb ma mc mT mR ?_
    refine dr_nil (h2 _ (ev_ret ?_)); clear h2 h1
    have e : ¬ a.at_ = b.at_ := by simpa using h
    exact retT [4] (hv := by rw [qE, decide_eq_false e]; rfl)
  have e1 : a.at_ = b.at_ := by simpa using h
  clear h1 K1 h
  refine ev_seq fun K1 h1 => ev_seq fun K2 h2 => ev_rf mB ?_
  repeat refine dr_act wN mb ma mc mT mR ?_
  refine dr_nil (h2 _ ?_); clear h2 K2
  refine ev_cond _ ml (fun h => ?_) (fun h => ev_skip (h1 _ ?_))
  · refine ev_seq fun K2 h2 => ev_rf mB ?_
    repeat refine dr_act wN mb ma mc mT mR ?_
    refine dr_nil (h2 _ (ev_ret ?_)); clear h2 h1
    have e : ¬ a.n = b.n := by simpa using h
    exact retT [4] (hv := by rw [qE, decide_eq_false e, decide_eq_true e1]; rfl)
  have e2 : a.n = b.n := by simpa using h
  clear h1 K1 h
  refine ev_seq fun K1 h1 => ev_seq fun K2 h2 => ev_rf mB ?_
  repeat refine dr_act wN mb ma mc mT mR ?_
  refine dr_callF wN mr mb mx mr (c19 a.s b.s hl) (Nat.le_of_ble_eq_true rfl) mv mT mN ?_
  repeat refine dr_act wN mb ma mc mT mR ?_
  refine dr_nil (h2 _ ?_); clear h2 K2
  refine ev_cond _ ml (fun h => ?_) (fun h => ev_skip (h1 _ ?_))
  · refine ev_seq fun K2 h2 => ev_rf mB ?_
    repeat refine dr_act wN mb ma mc mT mR ?_
    refine dr_nil (h2 _ (ev_ret ?_)); clear h2 h1
    have e : ¬ a.s = b.s := by simpa using h
    exact retT [4] (hv := by rw [qE, decide_eq_false e, decide_eq_true e1, decide_eq_true e2]; rfl)
  have e3 : a.s = b.s := by simpa using h
  clear h1 K1 h
  refine ev_seq fun K2 h2 => ev_rf mB ?_
  repeat refine dr_act wN mb ma mc mT mR ?_
  refine dr_nil (h2 _ (ev_ret ?_)); clear h2
  exact retT [4] (hv := by rw [qE, decide_eq_true e1, decide_eq_true e2, decide_eq_true e3]; rfl)

theorem c25 (e : Ed) (hl : e.s.length ≤ 1048576) : Good Try.prog 25 [eE e] (.agg (cE (.ref (0, none) 0 e.s.length) e)) [⟨5, 1, e.s.map cB⟩] := by
  refine good_of (E := En 15) (fn := Try.f25) (by kernel_rfl) (by kernel_rfl) rfl rfl (by simp only [List.length_cons, List.length_nil]; decide) (fun C0 => ?_)
  simp only [argT, Nat.reduceAdd]
  iterate 4
    refine ev_seq fun K1 h1 => ev_rf mB ?_
    repeat refine dr_act wN mb ma mc mT mR ?_
    refine dr_nil (h1 _ ?_); clear h1 K1
  refine ev_seq fun K1 h1 => ev_rf mB ?_
  repeat refine dr_act wN mb ma mc mT mR ?_
  refine dr_callF wN mr mb mx mr (c16 e.s hl) (Nat.le_of_ble_eq_true rfl) mv mT mN ?_
  repeat refine dr_act wN mb ma mc mT mR ?_
  refine dr_nil (h1 _ ?_); clear h1 K1
  refine ev_seq fun K1 h1 => ev_rf mB ?_
  repeat refine dr_act wN mb ma mc mT mR ?_
  refine dr_nil (h1 _ (ev_ret ?_)); clear h1 K1
  refine retC [104] (hR := ⟨⟨rfl, pure_map fun r => rfl⟩, trivial⟩)

theorem c23 (e : Ed) (k : Int) (hl : e.s.length ≤ maxLen) (h0 : 0 ≤ k ∧ k ≤ 1048576) : Good Try.prog 23 [eE e, vi k] (vi (sz1 e.s k)) [] := by
  refine good_of (E := En 12) (fn := Try.f23) (by kernel_rfl) (by kernel_rfl) rfl rfl (by simp only [List.length_cons, List.length_nil]; decide) (fun C0 => ?_)
  simp only [argT, Nat.reduceAdd]
  refine ev_seq fun K1 h1 => ev_rf mB ?_
  repeat refine dr_act wN mb ma mc mT mR ?_
  refine dr_nil (h1 _ ?_); clear h1 K1
  refine ev_seq fun K1 h1 => ev_rf mB ?_
  repeat refine dr_act wN mb ma mc mT mR ?_
  refine dr_callF wN mr mb mx mr (c89 e.s k hl h0) (Nat.le_of_ble_eq_true rfl) mv mT mN ?_
  repeat refine dr_act wN mb ma mc mT mR ?_
  refine dr_nil (h1 _ ?_); clear h1 K1
  refine ev_seq fun K1 h1 => ev_seq fun K2 h2 => ev_rf mB ?_
  repeat refine dr_act wN mb ma mc mT mR ?_
  refine dr_nil (h2 _ ?_); clear h2 K2
  refine ev_cond _ ml (fun h => ?_) (fun h => ev_skip (h1 _ ?_))
  · have hlt := of_decide_eq_true h
    refine ev_seq fun K2 h2 => ev_rf mB ?_
    repeat refine dr_act wN mb ma mc mT mR ?_
    refine dr_nil (h2 _ (ev_ret ?_)); clear h2 h1
    exact retT [4] (hv := by unfold sz1 at hlt ⊢; split <;> first | rfl | (exfalso; split at hlt <;> omega))
  · clear h1 K1
    refine ev_seq fun K2 h2 => ev_rf mB ?_
    repeat refine dr_act wN mb ma mc mT mR ?_
    refine dr_nil (h2 _ (ev_ret ?_)); clear h2
    exact retT [4] (hv := rfl)
end Go.Ev
namespace Go.Ev
open Go Go.RowKit Go.Proofs
variable {P : Program}

theorem good_empty {f : FuncId} {sz : Nat} {v : V} {rs : List Root} (h : ∀ a cap, Good P f [.val (.slice a 0 cap)] v rs) : Good P f [.list sz []] v rs := by
  refine ⟨(h none 0).1, fun w F vals hF hl hv => ?_⟩
  have h0 : vals[0]? = some (vals[0]'(by rw [hl]; simp)) := Array.getElem?_eq_getElem _
  have hr := hv 0 _ _ h0 rfl
  generalize vals[0]'(by rw [hl]; simp) = u at h0 hr
  cases hr with
  | list ad g hl' =>
    rename_i a len cap hm hcap hs ha hFb hc hh
    have : len = 0 := hl'.symm
    subst this
    refine (h a cap).2 w F vals hF hl (fun i y x hy hx => ?_)
    cases i with
    | succ i => simp at hx
    | zero =>
      rw [h0] at hy
      cases hy
      simp only [List.getElem?_cons_zero, Option.some.injEq] at hx
      subst hx
      exact .val _

theorem good_nil {f : FuncId} {args : List V} (ty sz : Nat) (h : Good P f args (.val (.slice none 0 0)) []) : Good P f args (.ref (0, none) 0 0) [⟨ty, sz, []⟩] := by
  refine ⟨h.1, fun w F vals hF hl hv => (h.2 w F vals hF hl hv).mono ?_⟩
  rintro e w' ⟨v', C', rfl, rfl, hS, hR, hV, hB, hFn, hO, hA, hN⟩
  obtain rfl := hV.val_inv
  let C2 : Cx := { w := C'.w, F := C'.F, io := fun _ => none, R := fun n => [(⟨ty, sz, []⟩ : Root)][n]?, A := fun n => n < 1 }
  have hg : ∀ p s xs, getP C2.R p = some (s, xs) → xs = [] := by
    intro p s xs hp
    obtain ⟨n, q⟩ := p
    obtain ⟨r, hr⟩ := getP_some hp
    have hr' : [(⟨ty, sz, []⟩ : Root)][n]? = some r := hr
    cases n with
    | succ n => simp at hr'
    | zero =>
      simp only [List.getElem?_cons_zero, Option.some.injEq] at hr'
      subst hr'
      cases q with
      | none =>
        rw [act_of hr] at hp
        simp only [Option.some.injEq, Prod.mk.injEq] at hp
        exact hp.2.symm
      | some ij =>
        obtain ⟨x, k1, _⟩ := getP_row (i := ij.1) (j := ij.2) hr hp
        simp at k1
  refine ⟨_, C2, rfl, rfl, ⟨fun p s xs hp => ?_, fun p q g _ _ h1 => (by cases h1), fun p g _ h1 => (by cases h1), hS.lt, fun n r hr => ?_⟩, rfl, .ref (by show 0 < 1; omega) (fun s xs hp => ?_), hB, hFn, ?_, fun k hk => hk, fun r hr => ?_⟩
  · obtain rfl := hg p s xs hp
    exact ⟨fun x hx => by simp at hx, fun _ => rfl, fun g h => by cases h⟩
  · exact (List.getElem?_eq_some_iff.1 hr).1
  · exact ⟨by omega, Nat.le_refl _, Nat.zero_le _, fun _ => ⟨rfl, rfl⟩, fun g h => by cases h⟩
  · rintro k ⟨p, _, hi⟩
    cases hi
  · simp only [List.mem_singleton] at hr
    subst hr
    rfl

theorem c161n (cap : Nat) : Good Try.prog 161 [.val (.slice none 0 cap)] (.val (.slice none 0 0)) [] := by
  refine good_of (E := En 8) (fn := Try.f161) (by kernel_rfl) (by kernel_rfl) rfl rfl (by simp only [List.length_cons, List.length_nil]; decide) (fun C0 => ?_)
  simp only [argT, Nat.reduceAdd]
  refine ev_seq fun K1 h1 => ev_rf mB ?_
  repeat refine dr_act wN mb ma mc mT mR ?_
  refine dr_nil (h1 _ ?_); clear h1 K1
  refine ev_seq fun K1 h1 => ev_seq fun K2 h2 => ev_rf mB ?_
  repeat refine dr_act wN mb ma mc mT mR ?_
  refine dr_nil (h2 _ ?_); clear h2 K2
  refine ev_cond true ml (fun h => ?_) (fun h => by cases h)
  refine ev_seq fun K2 h2 => ev_rf mB ?_
  repeat refine dr_act wN mb ma mc mT mR ?_
  refine dr_nil (h2 _ (ev_ret ?_)); clear h2 h1
  exact retT [2] (hv := rfl)

theorem c161s (ad : Addr) (cap : Nat) : Good Try.prog 161 [.val (.slice (some ad) 0 cap)] (.ref (0, none) 0 0) [⟨5, 1, []⟩] := by
  refine good_of (E := En 8) (fn := Try.f161) (by kernel_rfl) (by kernel_rfl) rfl rfl (by simp only [List.length_cons, List.length_nil]; decide) (fun C0 => ?_)
  simp only [argT, Nat.reduceAdd]
  refine ev_seq fun K1 h1 => ev_rf mB ?_
  repeat refine dr_act wN mb ma mc mT mR ?_
  refine dr_nil (h1 _ ?_); clear h1 K1
  refine ev_seq fun K1 h1 => ev_seq fun K2 h2 => ev_rf mB ?_
  repeat refine dr_act wN mb ma mc mT mR ?_
  refine dr_nil (h2 _ ?_); clear h2 K2
  refine ev_cond false ml (fun h => by cases h) (fun h => ev_skip (h1 _ ?_)); clear h1 K1
  refine ev_seq fun K2 h2 => ev_rf mB ?_
  repeat refine dr_act wN mb ma mc mT mR ?_
  repeat refine dr_act wN mb ma mc mT mR ?_
  refine dr_nil (h2 _ (ev_ret ?_)); clear h2
  exact retR [24] [2] (hv := rfl) (hR := ⟨⟨rfl, rfl⟩, trivial⟩)

theorem c161l (xs : List Int) (h0 : 0 < xs.length) (hl : xs.length ≤ 1048576) : Good Try.prog 161 [eB xs] (.ref (0, none) 0 xs.length) [⟨5, 1, xs.map cB⟩] := by
  refine good_of (E := En 8) (fn := Try.f161) (by kernel_rfl) (by kernel_rfl) rfl rfl (by simp only [List.length_cons, List.length_nil]; decide) (fun C0 => ?_)
  simp only [argT, Nat.reduceAdd, eB]
  refine ev_seq fun K1 h1 => ev_rf mB ?_
  repeat refine dr_act wN mb ma mc mT mR ?_
  refine dr_nil (h1 _ ?_); clear h1 K1
  refine ev_seq fun K1 h1 => ev_seq fun K2 h2 => ev_rf mB ?_
  repeat refine dr_act wN mb ma mc mT mR ?_
  refine dr_act wN mb ma (by exact h0) mT mR ?_
  refine dr_nil (h2 _ ?_); clear h2 K2
  refine ev_cond _ ml (fun h => by cases h) (fun h => ev_skip (h1 _ ?_)); clear h1 K1
  refine ev_seq fun K2 h2 => ev_rf mB ?_
  repeat refine dr_act wN mb ma mc mT mR ?_
  refine dr_act wN mb ma (by exact ⟨by simp only [maxLen]; omega, by omega⟩) mT mR ?_
  repeat refine dr_act wN mb ma mc mT mR ?_
  refine dr_nil (h2 _ (ev_ret ?_)); clear h2
  exact retR [40] [2] (hv := rfl) (hR := ⟨⟨rfl, pure_map fun _ => rfl⟩, trivial⟩)

theorem c161 (xs : List Int) (hl : xs.length ≤ 1048576) : Good Try.prog 161 [eB xs] (.ref (0, none) 0 xs.length) [⟨5, 1, xs.map cB⟩] := by
  rcases xs with _ | ⟨x, xs⟩
  · refine good_empty fun a cap => ?_
    rcases a with _ | ad
    · exact good_nil 5 1 (c161n cap)
    · exact c161s ad cap
  · exact c161l (x :: xs) (by simp) hl
end Go.Ev
namespace Go.Ev
open Go Go.RowKit Go.Proofs

abbrev w64 (x : Int) : Int := IntKind.i64.wrap x

theorem c92 (g : Gp) : Good Try.prog 92 [eG g] (vi (w64 (g.w.n - w64 (g.q - g.p)))) [] := by
  refine good_of (E := En 12) (fn := Try.f92) (by kernel_rfl) (by kernel_rfl) rfl rfl (by simp only [List.length_cons, List.length_nil]; decide) (fun C0 => ?_)
  simp only [argT, Nat.reduceAdd]
  iterate 2
    refine ev_seq fun K1 h1 => ev_rf mB ?_
    repeat refine dr_act wN mb ma mc mT mR ?_
    refine dr_nil (h1 _ ?_); clear h1 K1
  refine ev_ret ?_
  exact retT [2] (hv := rfl)

theorem c148 (g : Gp) : Good Try.prog 148 [eG g] (vi (w64 (g.w.n - w64 (g.q - g.p)))) [] := by
  refine good_of (E := En 12) (fn := Try.f148) (by kernel_rfl) (by kernel_rfl) rfl rfl (by simp only [List.length_cons, List.length_nil]; decide) (fun C0 => ?_)
  simp only [argT, Nat.reduceAdd]
  iterate 2
    refine ev_seq fun K1 h1 => ev_rf mB ?_
    repeat refine dr_act wN mb ma mc mT mR ?_
    refine dr_nil (h1 _ ?_); clear h1 K1
  refine ev_ret ?_
  exact retT [2] (hv := rfl)

theorem c199 (w : Win) : Good Try.prog 199 [eW w] (vi (w64 (w.c - w.n))) [] := by
  refine good_of (E := En 8) (fn := Try.f199) (by kernel_rfl) (by kernel_rfl) rfl rfl (by simp only [List.length_cons, List.length_nil]; decide) (fun C0 => ?_)
  simp only [argT, Nat.reduceAdd]
  iterate 2
    refine ev_seq fun K1 h1 => ev_rf mB ?_
    repeat refine dr_act wN mb ma mc mT mR ?_
    refine dr_nil (h1 _ ?_); clear h1 K1
  refine ev_ret ?_
  exact retT [2] (hv := rfl)

theorem c101 (w : Win) (a b c : Int) : Good Try.prog 101 [eW w, vi a, vi b, vi c] (eW ⟨w.a, w64 (w.s + a), w64 (b - a), w64 (c - a)⟩) [] := by
  refine good_of (E := En 22) (fn := Try.f101) (by kernel_rfl) (by kernel_rfl) rfl rfl (by simp only [List.length_cons, List.length_nil]; decide) (fun C0 => ?_)
  simp only [argT, Nat.reduceAdd]
  iterate 2
    refine ev_seq fun K1 h1 => ev_rf mB ?_
    repeat refine dr_act wN mb ma mc mT mR ?_
    refine dr_nil (h1 _ ?_); clear h1 K1
  refine ev_ret ?_
  exact retC [] (hR := trivial)

theorem c200 (a b : Int) : Good Try.prog 200 [vi a, vi b] (vi (if a < b then a else b)) [] := by
  refine good_of (E := En 10) (fn := Try.f200) (by kernel_rfl) (by kernel_rfl) rfl rfl (by simp only [List.length_cons, List.length_nil]; decide) (fun C0 => ?_)
  simp only [argT, Nat.reduceAdd]
  refine ev_seq fun K1 h1 => ev_rf mB ?_
  repeat refine dr_act wN mb ma mc mT mR ?_
  refine dr_nil (h1 _ ?_); clear h1 K1
  refine ev_seq fun K1 h1 => ev_seq fun K2 h2 => ev_rf mB ?_
  repeat refine dr_act wN mb ma mc mT mR ?_
  refine dr_nil (h2 _ ?_); clear h2 K2
  refine ev_cond _ ml (fun h => ?_) (fun h => ev_skip (h1 _ ?_))
  · have hlt := of_decide_eq_true h
    refine ev_seq fun K2 h2 => ev_rf mB ?_
    repeat refine dr_act wN mb ma mc mT mR ?_
    refine dr_nil (h2 _ (ev_ret ?_)); clear h2 h1
    exact retT [4] (hv := by rw [if_pos hlt]; rfl)
  · have hge := of_decide_eq_false h
    refine ev_seq fun K2 h2 => ev_rf mB ?_
    repeat refine dr_act wN mb ma mc mT mR ?_
    refine dr_nil (h2 _ (ev_ret ?_)); clear h2
    exact retT [4] (hv := by rw [if_neg hge]; rfl)

theorem c201 (a b : Int) : Good Try.prog 201 [vi a, vi b] (vi (if a > b then a else b)) [] := by
  refine good_of (E := En 10) (fn := Try.f201) (by kernel_rfl) (by kernel_rfl) rfl rfl (by simp only [List.length_cons, List.length_nil]; decide) (fun C0 => ?_)
  simp only [argT, Nat.reduceAdd]
  refine ev_seq fun K1 h1 => ev_rf mB ?_
  repeat refine dr_act wN mb ma mc mT mR ?_
  refine dr_nil (h1 _ ?_); clear h1 K1
  refine ev_seq fun K1 h1 => ev_seq fun K2 h2 => ev_rf mB ?_
  repeat refine dr_act wN mb ma mc mT mR ?_
  refine dr_nil (h2 _ ?_); clear h2 K2
  refine ev_cond _ ml (fun h => ?_) (fun h => ev_skip (h1 _ ?_))
  · have hlt := of_decide_eq_true h
    refine ev_seq fun K2 h2 => ev_rf mB ?_
    repeat refine dr_act wN mb ma mc mT mR ?_
    refine dr_nil (h2 _ (ev_ret ?_)); clear h2 h1
    exact retT [4] (hv := by rw [if_pos hlt]; rfl)
  · have hge := of_decide_eq_false h
    refine ev_seq fun K2 h2 => ev_rf mB ?_
    repeat refine dr_act wN mb ma mc mT mR ?_
    refine dr_nil (h2 _ (ev_ret ?_)); clear h2
    exact retT [4] (hv := by rw [if_neg hge]; rfl)

theorem c123 (x a b : Int) : Good Try.prog 123 [vi x, vi a, vi b] (vb (decide (a ≤ x ∧ x ≤ b))) [] := by
  refine good_of (E := En 15) (fn := Try.f123) (by kernel_rfl) (by kernel_rfl) rfl rfl (by simp only [List.length_cons, List.length_nil]; decide) (fun C0 => ?_)
  simp only [argT, Nat.reduceAdd]
  refine ev_seq fun K1 h1 => ev_rf (b' := 8) rfl ?_
  repeat refine dr_act wN mb ma mc mT mR ?_
  refine dr_nil (h1 _ ?_)
  clear h1 K1
  refine ev_seq fun K1 h1 => ev_rf (b' := 80) rfl ?_
  repeat refine dr_act wN mb ma mc mT mR ?_
  cases hd : decide (x ≥ a) <;> repeat (first | refine dr_act wN mb ma mc mT mR ?_ | refine dr_act wG mb ma mc mT mR ?_ | refine dr_skip wG mT ?_)
  all_goals
    refine dr_nil (h1 _ ?_)
    clear h1 K1
    refine ev_ret ?_
  · refine retT [6] (hv := ?_)
    have : ¬ (a ≤ x ∧ x ≤ b) := fun h => by simp at hd; omega
    rw [decide_eq_false this]; rfl
  · refine retT [6] (hv := ?_)
    have h1 : a ≤ x := by simpa using hd
    show vb _ = vb _
    congr 2
    simp [h1]
end Go.Ev
namespace Go.Ev
open Go Go.RowKit Go.Proofs

theorem chkR_cons {ρ : Nat → Nat} {bd n : Nat} {r : Root} {R : Rs} {l : List (Nat × Root)} (h : chkR ρ bd R [(n, r)]) (k : chkR ρ bd R l) : chkR ρ bd R ((n, r) :: l) := ⟨h.1, k⟩

theorem c150 (m : List (List Int)) (hl : m.length ≤ 1048576) (hr : ∀ r, r ∈ m → r.length ≤ 1048576) : Good Try.prog 150 [eMem m] (.agg [.ref (0, none) 0 m.length]) [rM m] := by
  refine good_of (E := En 27) (fn := Try.f150) (by kernel_rfl) (by kernel_rfl) rfl rfl (by simp only [List.length_cons, List.length_nil]; decide) (fun C0 => ?_)
  simp only [argT, Nat.reduceAdd]
  iterate 2
    refine ev_seq fun K1 h1 => ev_rf mB ?_
    repeat refine dr_act wN mb ma mc mT mR ?_
    refine dr_nil (h1 _ ?_); clear h1 K1
  refine ev_seq fun K1 h1 => ?_
  refine ev_seq fun K2 h2 => ev_rf mB ?_
  repeat refine dr_act wN mb ma mc mT mR ?_
  refine dr_nil (h2 _ ?_); clear h2 K2
  refine ev_block (ev_loop (α := {i : Nat // i ≤ m.length}) (fun i => ⟨[(1, .ptr (0, none) 0 0), (2, .ptr (8, none) 0 0), (3, .ptr (32, none) 0 0), (4, vi i.1)], [(0, ⟨31, 1, [[eM m]]⟩), (8, ⟨31, 1, [[.val (.slice none 0 0)]]⟩), (32, ⟨31, 1, [[.ref (16, none) 0 i.1]]⟩), (16, ⟨29, 1, (m.take i.1).map cR⟩)], 56⟩) (fun i => m.length - i.1) ⟨0, Nat.zero_le _⟩ (weak_ren [] mK mK mD mQ) (fun ⟨i, hi⟩ => ?_))
  refine ev_seq fun K2 h2 => ev_seq fun K3 h3 => ev_rf mB ?_
  repeat refine dr_act wN mb ma mc mT mR ?_
  refine dr_nil (h3 _ ?_); clear h3
  refine ev_cond _ ml (fun h => ev_skip (h2 _ ?_)) (fun h => ev_exit ?_)
  · clear h1 h2
    have hlt : i < m.length := by have := of_decide_eq_true h; omega
    have hri : (m.getD i []).length ≤ 1048576 := by
      rw [List.getD_eq_getElem?_getD, List.getElem?_eq_getElem hlt]; exact hr _ (List.getElem_mem hlt)
    have hti : (m.take i).length = i := by rw [List.length_take]; omega
    refine ev_seq fun K2 h2 => ev_block (ev_reg mB ?_)
    repeat refine dr_act wN mb ma mc mT mR ?_
    refine dr_ix ([] : List Int) wN mr mb (by simp only [En_nt, lookO, lookT, Nat.reduceEqDiff, Nat.reduceLT, ↓reduceIte, eM]; rfl) ml mS (by omega) mT ?_
    repeat refine dr_act wN mb ma mc mT mR ?_
    refine dr_act wN mb (by simp only [eB]; exact ma) (by exact ⟨by simp only [maxLen]; omega, by omega⟩) mT mR ?_
    repeat refine dr_act wN mb ma mc mT mR ?_
    refine dr_act wN mb ma (by exact ⟨⟨by decide, by decide, fun x hx => by simp at hx; subst hx; rfl⟩, by simp [notRow], by decide⟩) mT mR ?_
    refine dr_act wN mb ma (by exact ⟨hti.symm, by simp only [maxLen]; omega, by omega⟩) mT mR ?_
    repeat refine dr_act wN mb ma mc mT mR ?_
    refine dr_nil ⟨fun _ => by kernel_rfl, h2 _ (ev_rf mB ?_)⟩; clear h2
    repeat refine dr_act wN mb ma mc mT mR ?_
    refine dr_nil ⟨⟨i + 1, by omega⟩, by simp only []; omega, ?_⟩
    rw [w64p (n := m.length) (by omega) (by omega)]
    refine weak_ren [(16, 176)] mK (chkR_cons mK (chkR_cons mK (chkR_cons mK (chkRm rfl (by decide) ?_ (fun _ => rfl) (fun a => by simp [okC]) trivial)))) mD mQ
    rw [← map_take_succ ([] : List Int) hlt]
  · simp only [seqK, loopK, blkK, ↓reduceIte]
    refine h1 _ ?_; clear h1 h2
    have hge := of_decide_eq_false h
    obtain rfl : i = m.length := by omega
    refine ev_seq fun K1 h1 => ev_rf mB ?_
    repeat refine dr_act wN mb ma mc mT mR ?_
    refine dr_nil (h1 _ (ev_ret ?_)); clear h1
    refine retC [16] (hR := ⟨⟨?_, pure_map fun r => by simp [pcell]⟩, trivial⟩)
    show some (Root.mk 29 1 ((m.take m.length).map cR)) = _
    rw [List.take_length]
end Go.Ev
namespace Go.Ev
open Go Go.RowKit Go.Proofs

theorem c94 (g : Gp) (p q : Int) (hl : g.m.length ≤ 1048576) (hr : ∀ r, r ∈ g.m → r.length ≤ 1048576) : Good Try.prog 94 [eG g, vi p, vi q] (oG 0 { g with p := p, q := q }) [rM g.m] := by
  refine good_of (E := En 15) (fn := Try.f94) (by kernel_rfl) (by kernel_rfl) rfl rfl (by simp only [List.length_cons, List.length_nil]; decide) (fun C0 => ?_)
  simp only [argT, Nat.reduceAdd]
  refine ev_seq fun K1 h1 => ev_rf mB ?_
  repeat refine dr_act wN mb ma mc mT mR ?_
  refine dr_nil (h1 _ ?_); clear h1 K1
  refine ev_seq fun K1 h1 => ev_reg mB ?_
  repeat refine dr_act wN mb ma mc mT mR ?_
  refine dr_callF wN mr mb mx mr (c150 g.m hl hr) (Nat.le_of_ble_eq_true rfl) mv mT mN ?_
  repeat refine dr_act wN mb ma mc mT mR ?_
  refine dr_nil ⟨fun _ => by kernel_rfl, h1 _ (ev_ret ?_)⟩
  exact retC [32] (hR := ⟨⟨rfl, pure_map fun r => by simp [pcell]⟩, trivial⟩)
end Go.Ev
namespace Go.Ev
open Go Go.RowKit Go.Proofs

theorem c91 (e : Ed) (n : Int) : Good Try.prog 91 [eE e, vi n] (vb (decide (0 ≤ e.at_ ∧ e.at_ ≤ n) && decide (0 ≤ e.n ∧ e.n ≤ w64 (n - e.at_)))) [] := by
  refine good_of (E := En 18) (fn := Try.f91) (by kernel_rfl) (by kernel_rfl) rfl rfl (by simp only [List.length_cons, List.length_nil]; decide) (fun C0 => ?_)
  simp only [argT, Nat.reduceAdd]
  refine ev_seq fun K1 h1 => ev_rf mB ?_
  repeat refine dr_act wN mb ma mc mT mR ?_
  refine dr_nil (h1 _ ?_); clear h1 K1
  refine ev_seq fun K1 h1 => ev_rf mB ?_
  repeat refine dr_act wN mb ma mc mT mR ?_
  refine dr_callF wN mr mb mx mr (c123 e.at_ 0 n) (Nat.le_of_ble_eq_true rfl) mv mT mN ?_
  refine dr_act wN mb ma mc mT mR ?_
  cases hd : decide (0 ≤ e.at_ ∧ e.at_ ≤ n)
  · iterate 7 refine dr_skip wG mT ?_
    repeat refine dr_act wN mb ma mc mT mR ?_
    refine dr_nil (h1 _ (ev_ret ?_))
    exact retT [4] (hv := by rw [hd]; rfl)
  · iterate 6 refine dr_act wG mb ma mc mT mR ?_
    refine dr_callF wG mr mb mx mr (c123 e.n 0 _) (Nat.le_of_ble_eq_true rfl) mv mT mN ?_
    repeat refine dr_act wN mb ma mc mT mR ?_
    refine dr_nil (h1 _ (ev_ret ?_))
    exact retT [4] (hv := by rw [hd]; rfl)
end Go.Ev
namespace Go.Ev
open Go Go.RowKit Go.Proofs

theorem take_mk8 {k : Int} {xs : List Int} {i : Nat} (h : xs.take i = mk8 k i) (hi : i < xs.length) (e : xs.getD i 0 = IntKind.u8.wrap (k + (i : Nat))) : xs.take (i + 1) = mk8 k (i + 1) := by
  rw [List.take_succ_eq_append_getElem hi, h, mk8, mk8, List.range_succ, List.map_append]
  rw [List.getD_eq_getElem?_getD, List.getElem?_eq_getElem hi] at e
  simp only [Option.getD_some] at e
  simp [e]

theorem mk8_get {k : Int} {n i : Nat} (h : i < n) : (mk8 k n).getD i 0 = IntKind.u8.wrap (k + (i : Nat)) := by
  simp [mk8, List.getD_eq_getElem?_getD, h]

theorem mk8_len {k : Int} {n : Nat} : (mk8 k n).length = n := by simp [mk8]

theorem wk {k : Int} {i n : Nat} (h : i < n) (hk : 0 ≤ k) (hn : k + n ≤ 4000000) : IntKind.i64.wrap (k + (i : Nat) + 1) = k + ((i + 1 : Nat) : Int) := by
  rw [wrap_of (by omega) (by omega)]; omega

theorem c163 (xs : List Int) (k : Int) (hk : 0 ≤ k) (hk2 : k + xs.length ≤ 4000000) : Good Try.prog 163 [eB xs, vi k] (vi (if xs = mk8 k xs.length then k + xs.length else -1)) [] := by
  refine good_of (E := En 22) (fn := Try.f163) (by kernel_rfl) (by kernel_rfl) rfl rfl (by simp only [List.length_cons, List.length_nil]; decide) (fun C0 => ?_)
  simp only [argT, Nat.reduceAdd, eB]
  refine ev_seq fun K1 h1 => ev_rf mB ?_
  repeat refine dr_act wN mb ma mc mT mR ?_
  refine dr_nil (h1 _ ?_); clear h1 K1
  refine ev_seq fun K1 h1 => ?_
  refine ev_seq fun K2 h2 => ev_rf mB ?_
  repeat refine dr_act wN mb ma mc mT mR ?_
  refine dr_nil (h2 _ ?_); clear h2 K2
  refine ev_block (ev_loop (α := {i : Nat // i ≤ xs.length ∧ xs.take i = mk8 k i}) (fun i => ⟨[(0, .list 1 (xs.map cB)), (1, vi (k + (i.1 : Nat))), (5, vi i.1)], [], 16⟩) (fun i => xs.length - i.1) ⟨0, Nat.zero_le _, rfl⟩ (weak_ren [] ?_ mK mD mQ) (fun ⟨i, hi, ht⟩ => ?_))
  · simp only [Int.natCast_zero, Int.add_zero]; exact mK
  refine ev_seq fun K2 h2 => ev_seq fun K3 h3 => ev_rf mB ?_
  repeat refine dr_act wN mb ma mc mT mR ?_
  refine dr_nil (h3 _ ?_); clear h3
  refine ev_cond _ ml (fun h => ev_skip (h2 _ ?_)) (fun h => ev_exit ?_)
  · clear h1 h2
    have hlt : i < xs.length := by have := of_decide_eq_true h; omega
    refine ev_seq fun K2 h2 => ev_block (ev_seq fun K3 h3 => ev_seq fun K4 h4 => ev_rf mB ?_)
    repeat refine dr_act wN mb ma mc mT mR ?_
    refine dr_ix (0 : Int) wN mr mb ml ml mS (by omega) mT ?_
    repeat refine dr_act wN mb ma mc mT mR ?_
    refine dr_nil (h4 _ ?_); clear h4
    refine ev_cond _ ml (fun h => ?_) (fun h => ev_skip (h3 _ ?_))
    · refine ev_seq fun K4 h4 => ev_rf mB ?_
      repeat refine dr_act wN mb ma mc mT mR ?_
      refine dr_nil (h4 _ (ev_ret ?_)); clear h4 h3 h2
      have e : ¬ xs = mk8 k xs.length := fun e => by
        have h' : ¬ xs.getD i 0 = IntKind.u8.wrap (k + (i : Nat)) := by simpa using h
        rw [e, mk8_get hlt] at h'
        exact h' rfl
      exact retT [4] (hv := by rw [if_neg e]; rfl)
    · clear h3
      have e : xs.getD i 0 = IntKind.u8.wrap (k + (i : Nat)) := by simpa using h
      refine ev_rf mB ?_
      repeat refine dr_act wN mb ma mc mT mR ?_
      refine dr_nil (h2 _ (ev_rf mB ?_)); clear h2
      repeat refine dr_act wN mb ma mc mT mR ?_
      refine dr_nil ⟨⟨i + 1, hlt, take_mk8 ht hlt e⟩, by simp only []; omega, ?_⟩
      rw [w64p (n := xs.length) hlt (by omega), wk hlt hk hk2]
      exact weak_ren [] mK mK mD mQ
  · simp only [seqK, loopK, blkK, ↓reduceIte]
    refine h1 _ ?_; clear h1 h2
    have hge := of_decide_eq_false h
    obtain rfl : i = xs.length := by omega
    have e : xs = mk8 k xs.length := by rw [← ht, List.take_length]
    refine ev_seq fun K1 h1 => ev_rf mB ?_
    repeat refine dr_act wN mb ma mc mT mR ?_
    refine dr_nil (h1 _ (ev_ret ?_)); clear h1
    exact retT [4] (hv := by rw [if_pos e]; rfl)

/-- All rows marked, one number behind the other. -/
def mkM (k : Int) : List (List Int) → List (List Int)
  | [] => []
  | r :: rs => mk8 k r.length :: mkM (k + r.length) rs
/-- How many bytes. -/
def tot : List (List Int) → Nat
  | [] => 0
  | r :: rs => r.length + tot rs

theorem mkM_length (k : Int) : ∀ m : List (List Int), (mkM k m).length = m.length
  | [] => rfl
  | r :: rs => by simp only [mkM, List.length_cons, mkM_length _ rs]

theorem tot_drop {m : List (List Int)} {i : Nat} (h : i < m.length) : tot (m.drop i) = (m.getD i []).length + tot (m.drop (i + 1)) := by
  have hd : m.drop i = m.getD i [] :: m.drop (i + 1) := by
    rw [List.drop_eq_getElem_cons h, List.getD_eq_getElem?_getD, List.getElem?_eq_getElem h]; rfl
  rw [hd]; rfl

theorem drop_cons {m : List (List Int)} {i : Nat} (h : i < m.length) : m.drop i = m.getD i [] :: m.drop (i + 1) := by
  rw [List.drop_eq_getElem_cons h, List.getD_eq_getElem?_getD, List.getElem?_eq_getElem h]; rfl

def hdM (m : List (List Int)) (k : Int) : Int := if m = mkM k m then k + tot m else -1
theorem hdM_cons (r : List Int) (rs : List (List Int)) (k : Int) (h : 0 ≤ k) : hdM (r :: rs) k = if r = mk8 k r.length then hdM rs (k + r.length) else -1 := by
  unfold hdM
  simp only [mkM, List.cons.injEq, tot]
  by_cases e : r = mk8 k r.length
  · rw [if_pos e]
    by_cases e2 : rs = mkM (k + r.length) rs
    · rw [if_pos e2, if_pos ⟨e, e2⟩]; omega
    · rw [if_neg e2, if_neg fun h => e2 h.2]
  · rw [if_neg e, if_neg fun h => e h.1]

theorem c131 (m : List (List Int)) (k : Int) (hk : 0 ≤ k) (hk2 : k + tot m ≤ 4000000) (hl : m.length ≤ 1048576) : Good Try.prog 131 [eM m, vi k] (vi (hdM m k)) [] := by
  refine good_of (E := En 21) (fn := Try.f131) (by kernel_rfl) (by kernel_rfl) rfl rfl (by simp only [List.length_cons, List.length_nil]; decide) (fun C0 => ?_)
  simp only [argT, Nat.reduceAdd, eM]
  refine ev_seq fun K1 h1 => ev_rf mB ?_
  repeat refine dr_act wN mb ma mc mT mR ?_
  refine dr_nil (h1 _ ?_); clear h1 K1
  refine ev_seq fun K1 h1 => ?_
  refine ev_seq fun K2 h2 => ev_rf mB ?_
  repeat refine dr_act wN mb ma mc mT mR ?_
  refine dr_nil (h2 _ ?_); clear h2 K2
  refine ev_block (ev_loop (α := {p : Nat × Int // p.1 ≤ m.length ∧ 0 ≤ p.2 ∧ p.2 + tot (m.drop p.1) ≤ 4000000 ∧ hdM (m.drop p.1) p.2 = hdM m k}) (fun p => ⟨[(0, .list 1 (m.map cM)), (1, vi p.1.2), (5, vi p.1.1)], [], 16⟩) (fun p => m.length - p.1.1) ⟨(0, k), Nat.zero_le _, hk, hk2, rfl⟩ (weak_ren [] mK mK mD mQ) (fun ⟨(i, x), hi, hx0, hx1, hx⟩ => ?_))
  refine ev_seq fun K2 h2 => ev_seq fun K3 h3 => ev_rf mB ?_
  repeat refine dr_act wN mb ma mc mT mR ?_
  refine dr_nil (h3 _ ?_); clear h3
  refine ev_cond _ ml (fun h => ev_skip (h2 _ ?_)) (fun h => ev_exit ?_)
  · clear h1 h2
    have hlt : i < m.length := by have := of_decide_eq_true h; simp only at hi; omega
    have hd := drop_cons hlt
    simp only [hd, tot] at hx1
    simp only [hd] at hx
    rw [hdM_cons _ _ _ hx0] at hx
    refine ev_seq fun K2 h2 => ev_block (ev_seq fun K3 h3 => ev_rf mB ?_)
    repeat refine dr_act wN mb ma mc mT mR ?_
    refine dr_ix ([] : List Int) wN mr mb ml ml mS (by omega) mT ?_
    repeat refine dr_act wN mb ma mc mT mR ?_
    refine dr_callF wN mr mb mx mr (c163 (m.getD i []) x hx0 (by omega)) (Nat.le_of_ble_eq_true rfl) mv mT mN ?_
    repeat refine dr_act wN mb ma mc mT mR ?_
    refine dr_nil (h3 _ ?_); clear h3
    refine ev_seq fun K3 h3 => ev_rf mB ?_
    repeat refine dr_act wN mb ma mc mT mR ?_
    refine dr_nil (h3 _ ?_); clear h3
    refine ev_cond _ ml (fun h => ?_) (fun h => ev_skip ?_)
    · have hneg := of_decide_eq_true h
      refine ev_seq fun K3 h3 => ev_rf mB ?_
      repeat refine dr_act wN mb ma mc mT mR ?_
      refine dr_nil (h3 _ (ev_ret ?_)); clear h3 h2
      have e : ¬ m.getD i [] = mk8 x (m.getD i []).length := fun e => by rw [if_pos e] at hneg; omega
      exact retT [4] (hv := by rw [← hx, if_neg e]; rfl)
    · have hpos := of_decide_eq_false h
      have e : m.getD i [] = mk8 x (m.getD i []).length := Classical.byContradiction fun e => by rw [if_neg e] at hpos; exact hpos (by decide)
      rw [if_pos e] at hx ⊢
      refine h2 _ (ev_rf mB ?_); clear h2
      repeat refine dr_act wN mb ma mc mT mR ?_
      refine dr_nil ⟨⟨(i + 1, x + ((m.getD i []).length : Nat)), hlt, by show 0 ≤ x + _; omega, by show x + ((m.getD i []).length : Nat) + (tot (m.drop (i + 1)) : Nat) ≤ 4000000; omega, hx⟩, by simp only []; omega, ?_⟩
      rw [w64p (n := m.length) hlt (by omega)]
      exact weak_ren [] mK mK mD mQ
  · simp only [seqK, loopK, blkK, ↓reduceIte]
    refine h1 _ ?_; clear h1 h2
    have hge := of_decide_eq_false h
    have hi' : i = m.length := by simp only at hi; omega
    have hz : hdM [] x = x := by simp only [hdM, mkM, tot, if_true]; omega
    simp only [hi', List.drop_length, hz] at hx
    refine ev_seq fun K1 h1 => ev_rf mB ?_
    repeat refine dr_act wN mb ma mc mT mR ?_
    refine dr_nil (h1 _ (ev_ret ?_)); clear h1
    exact retT [4] (hv := by rw [← hx]; rfl)
end Go.Ev
namespace Go.Ev
open Go Go.RowKit Go.Proofs

theorem hdM_neg {m : List (List Int)} {k : Int} (hk : 0 ≤ k) (h : hdM m k < 0) : hdM m k = -1 := by
  unfold hdM at h ⊢
  split
  · rename_i e; rw [if_pos e] at h; omega
  · rfl

theorem c65 (m : List (List Int)) (k : Int) (hk : 0 ≤ k) (hk2 : k + tot m ≤ 4000000) (hl : m.length ≤ 1048576) : Good Try.prog 65 [eMem m, vi k] (vi (hdM m k)) [] := by
  refine good_of (E := En 12) (fn := Try.f65) (by kernel_rfl) (by kernel_rfl) rfl rfl (by simp only [List.length_cons, List.length_nil]; decide) (fun C0 => ?_)
  simp only [argT, Nat.reduceAdd]
  refine ev_seq fun K1 h1 => ev_rf mB ?_
  repeat refine dr_act wN mb ma mc mT mR ?_
  refine dr_nil (h1 _ ?_); clear h1 K1
  refine ev_seq fun K1 h1 => ev_rf mB ?_
  repeat refine dr_act wN mb ma mc mT mR ?_
  refine dr_callF wN mr mb mx mr (c131 m k hk hk2 hl) (Nat.le_of_ble_eq_true rfl) mv mT mN ?_
  repeat refine dr_act wN mb ma mc mT mR ?_
  refine dr_nil (h1 _ ?_); clear h1 K1
  refine ev_seq fun K1 h1 => ev_seq fun K2 h2 => ev_rf mB ?_
  repeat refine dr_act wN mb ma mc mT mR ?_
  refine dr_nil (h2 _ ?_); clear h2 K2
  refine ev_cond _ ml (fun h => ?_) (fun h => ev_skip (h1 _ ?_))
  · have hlt := of_decide_eq_true h
    refine ev_seq fun K2 h2 => ev_rf mB ?_
    repeat refine dr_act wN mb ma mc mT mR ?_
    refine dr_nil (h2 _ (ev_ret ?_)); clear h2 h1
    exact retT [4] (hv := by rw [hdM_neg hk hlt]; rfl)
  · clear h1 K1
    refine ev_seq fun K2 h2 => ev_rf mB ?_
    repeat refine dr_act wN mb ma mc mT mR ?_
    refine dr_nil (h2 _ (ev_ret ?_)); clear h2
    exact retT [4] (hv := rfl)

theorem c22 (g : Gp) (k : Int) (hk : 0 ≤ k) (hk2 : k + tot g.m ≤ 4000000) (hl : g.m.length ≤ 1048576) : Good Try.prog 22 [eG g, vi k] (vi (hdM g.m k)) [] := by
  refine good_of (E := En 12) (fn := Try.f22) (by kernel_rfl) (by kernel_rfl) rfl rfl (by simp only [List.length_cons, List.length_nil]; decide) (fun C0 => ?_)
  simp only [argT, Nat.reduceAdd]
  refine ev_seq fun K1 h1 => ev_rf mB ?_
  repeat refine dr_act wN mb ma mc mT mR ?_
  refine dr_nil (h1 _ ?_); clear h1 K1
  refine ev_seq fun K1 h1 => ev_rf mB ?_
  repeat refine dr_act wN mb ma mc mT mR ?_
  refine dr_callF wN mr mb mx mr (c65 g.m k hk hk2 hl) (Nat.le_of_ble_eq_true rfl) mv mT mN ?_
  repeat refine dr_act wN mb ma mc mT mR ?_
  refine dr_nil (h1 _ ?_); clear h1 K1
  refine ev_seq fun K1 h1 => ev_seq fun K2 h2 => ev_rf mB ?_
  repeat refine dr_act wN mb ma mc mT mR ?_
  refine dr_nil (h2 _ ?_); clear h2 K2
  refine ev_cond _ ml (fun h => ?_) (fun h => ev_skip (h1 _ ?_))
  · have hlt := of_decide_eq_true h
    refine ev_seq fun K2 h2 => ev_rf mB ?_
    repeat refine dr_act wN mb ma mc mT mR ?_
    refine dr_nil (h2 _ (ev_ret ?_)); clear h2 h1
    exact retT [4] (hv := by rw [hdM_neg hk hlt]; rfl)
  · clear h1 K1
    refine ev_seq fun K2 h2 => ev_rf mB ?_
    repeat refine dr_act wN mb ma mc mT mR ?_
    refine dr_nil (h2 _ (ev_ret ?_)); clear h2
    exact retT [4] (hv := rfl)
end Go.Ev
namespace Go.Ev
open Go Go.RowKit Go.Proofs

/-- Bytes over bytes, from a place on. -/
def ovr (r : List Int) (s : Nat) (xs : List Int) : List Int := r.take s ++ xs ++ r.drop (s + xs.length)

theorem ovr_length {r : List Int} {s : Nat} {xs : List Int} (h : s + xs.length ≤ r.length) : (ovr r s xs).length = r.length := by
  simp only [ovr, List.length_append, List.length_take, List.length_drop]; omega

theorem ovr_nil (r : List Int) (s : Nat) : ovr r s [] = r := by simp [ovr]

theorem ovr_set {r : List Int} {s : Nat} {xs : List Int} {i : Nat} (h : s + xs.length ≤ r.length) (hi : i < xs.length) : (ovr r s (xs.take i)).set (s + i) (xs.getD i 0) = ovr r s (xs.take (i + 1)) := by
  have e1 : (xs.take i).length = i := by rw [List.length_take]; omega
  have e2 : (xs.take (i + 1)).length = i + 1 := by rw [List.length_take]; omega
  have e3 : (r.take s ++ xs.take i).length = s + i := by rw [List.length_append, e1, List.length_take]; omega
  have e4 : r.drop (s + i) = r[s + i] :: r.drop (s + i + 1) := List.drop_eq_getElem_cons (by omega)
  simp only [ovr, e1, e2]
  rw [List.set_append, if_neg (by omega), e3, Nat.sub_self, e4, List.set_cons_zero, List.take_succ_eq_append_getElem hi, List.getD_eq_getElem?_getD, List.getElem?_eq_getElem hi]
  simp only [List.append_assoc, List.cons_append, List.nil_append, Nat.add_assoc, Option.getD_some]

theorem setP_row {m : List (List Int)} {a : Nat} {ys : List Int} (h : a < m.length) : setP (rM m) (some (a, 0)) (ys.map cB) = rM (m.set a ys) := by
  simp only [setP]
  rw [getD_mapL ([] : List Int) [] h]
  show Root.mk 29 1 ((m.map cR).set a (cR ys)) = _
  rw [set_map]

theorem getD_set {α : Type} {l : List α} {a : Nat} {y d : α} (h : a < l.length) : (l.set a y).getD a d = y := by
  simp [List.getD_eq_getElem?_getD, h]

/-- Bytes into an array of a memory. -/
def wrM (m : List (List Int)) (a s : Nat) (xs : List Int) : List (List Int) := m.set a (ovr (m.getD a []) s xs)

theorem wrM_length {m : List (List Int)} {a s : Nat} {xs : List Int} : (wrM m a s xs).length = m.length := by simp [wrM]

theorem mem_getD {m : List (List Int)} {P : List Int → Prop} (h : ∀ r, r ∈ m → P r) {a : Nat} (ha : a < m.length) : P (m.getD a []) := by
  rw [List.getD_eq_getElem?_getD, List.getElem?_eq_getElem ha]; exact h _ (List.getElem_mem ha)

theorem c106 (m : List (List Int)) (w : Win) (at_ : Int) (xs : List Int) (hl : m.length ≤ 1048576) (hr : ∀ r, r ∈ m → r.length ≤ 1048576) (ha : 0 ≤ w.a ∧ w.a < m.length) (hs : 0 ≤ w.s + at_) (he : (w.s + at_).toNat + xs.length ≤ (m.getD w.a.toNat []).length) :
    Good Try.prog 106 [eMem m, eW w, vi at_, eB xs] (.agg [.ref (0, none) 0 m.length]) [rM (wrM m w.a.toNat (w.s + at_).toNat xs)] := by
  refine good_of (E := En 37) (fn := Try.f106) (by kernel_rfl) (by kernel_rfl) rfl rfl (by simp only [List.length_cons, List.length_nil]; decide) (fun C0 => ?_)
  have hra := mem_getD hr (show w.a.toNat < m.length by omega)
  generalize hsn : (w.s + at_).toNat = s at *
  have hw1 : IntKind.i64.wrap (w.s + at_) = (s : Nat) := by rw [wrap_of (by omega) (by omega)]; omega
  have hat : w.a = (w.a.toNat : Nat) := by omega
  simp only [argT, Nat.reduceAdd, eB]
  refine ev_seq fun K1 h1 => ev_rf mB ?_
  repeat refine dr_act wN mb ma mc mT mR ?_
  refine dr_nil (h1 _ ?_); clear h1 K1
  refine ev_seq fun K1 h1 => ev_rf mB ?_
  repeat refine dr_act wN mb ma mc mT mR ?_
  refine dr_callF wN mr mb mx mr (c150 m hl hr) (Nat.le_of_ble_eq_true rfl) mv mT mN ?_
  repeat refine dr_act wN mb ma mc mT mR ?_
  refine dr_nil (h1 _ ?_); clear h1 K1
  refine ev_seq fun K1 h1 => ?_
  refine ev_seq fun K2 h2 => ev_rf mB ?_
  repeat refine dr_act wN mb ma mc mT mR ?_
  refine dr_nil (h2 _ ?_); clear h2 K2
  refine ev_block (ev_loop (α := {i : Nat // i ≤ xs.length}) (fun i => ⟨[(2, vi at_), (3, .list 1 (xs.map cB)), (5, .ptr (8, none) 0 0), (8, .ptr (16, none) 0 0), (9, .ptr (40, none) 0 0), (10, vi i.1)], [(8, ⟨32, 4, [[vi w.a, vi w.s, vi w.n, vi w.c]]⟩), (16, ⟨31, 1, [[.val (.slice none 0 0)]]⟩), (40, ⟨31, 1, [[.ref (32, none) 0 m.length]]⟩), (32, rM (wrM m w.a.toNat s (xs.take i.1)))], 64⟩) (fun i => xs.length - i.1) ⟨0, Nat.zero_le _⟩ (weak_ren [] mK (chkR_cons mK (chkR_cons mK (chkR_cons mK (chkRm rfl (by decide) ?_ (fun _ => rfl) (fun a => by simp [okC]) mK)))) mD mQ) (fun ⟨i, hi⟩ => ?_))
  · rw [wrM, List.take_zero, ovr_nil]
    congr 1
    apply List.ext_getElem?
    intro k
    rw [List.getElem?_set]
    split
    · rename_i e; subst e
      rw [List.getD_eq_getElem?_getD]
      rw [if_pos (by omega), List.getElem?_eq_getElem (by omega)]; rfl
    · rfl
  refine ev_seq fun K2 h2 => ev_seq fun K3 h3 => ev_rf mB ?_
  repeat refine dr_act wN mb ma mc mT mR ?_
  refine dr_nil (h3 _ ?_); clear h3
  refine ev_cond _ ml (fun h => ev_skip (h2 _ ?_)) (fun h => ev_exit ?_)
  · clear h1 h2
    have hlt : i < xs.length := by have := of_decide_eq_true h; omega
    have hti : (xs.take i).length = i := by rw [List.length_take]; omega
    have hwl : (wrM m w.a.toNat s (xs.take i)).length = m.length := wrM_length
    have hgr : (wrM m w.a.toNat s (xs.take i)).getD w.a.toNat [] = ovr (m.getD w.a.toNat []) s (xs.take i) := getD_set (by omega)
    have hol : (ovr (m.getD w.a.toNat []) s (xs.take i)).length = (m.getD w.a.toNat []).length := ovr_length (by omega)
    have hw2 : IntKind.i64.wrap ((s : Nat) + (i : Nat)) = ((s + i : Nat) : Int) := by rw [wrap_of (by omega) (by omega)]; omega
    refine ev_seq fun K2 h2 => ev_block (ev_reg mB ?_)
    repeat refine dr_act wN mb ma mc mT mR ?_
    refine dr_ixp wN mr mb ml ml mr mS ⟨ha.1, ha.2⟩ (Nat.zero_add _) mT ?_
    refine dr_ldp (g := cR) (ys := wrM m w.a.toNat s (xs.take i)) [] wN mr mb ml mr (by omega) ⟨by decide, Nat.le_refl 1⟩ mV mT ?_
    repeat refine dr_act wN mb ma mc mT mR ?_
    rw [hw1, hw2]
    refine dr_ix (0 : Int) wN mr mb ml ml mS (by omega) mT ?_
    repeat refine dr_act wN mb ma mc mT mR ?_
    refine dr_ixp wN mr mb ml ml (getP_map (d := []) (g := cR) (ys := wrM m w.a.toNat s (xs.take i)) mr (by omega) mr) mS (by rw [List.length_map, hgr, hol]; omega) (show 0 + _ = s + i by omega) mT ?_
    refine dr_stp (zs := (ovr (m.getD w.a.toNat []) s (xs.take (i + 1))).map cB) (r' := rM (wrM m w.a.toNat s (xs.take (i + 1)))) wN mr mb ml (getP_map (d := []) (g := cR) (ys := wrM m w.a.toNat s (xs.take i)) mr (by omega) mr) mr ml ⟨rfl, rfl⟩ mZ ⟨by rw [List.length_map, hgr, hol]; omega, Nat.le_refl 1⟩ ?_ ?_ mT mR ?_
    · rw [hgr, ← ovr_set he hlt]
      exact set_put 0 (by rw [hol]; omega) rfl
    · show setP (rM (wrM m w.a.toNat s (xs.take i))) _ _ = _
      rw [setP_row (by omega), wrM, wrM, List.set_set]
    refine dr_nil ⟨fun _ => by kernel_rfl, h2 _ (ev_rf mB ?_)⟩; clear h2
    repeat refine dr_act wN mb ma mc mT mR ?_
    refine dr_nil ⟨⟨i + 1, by omega⟩, by simp only []; omega, ?_⟩
    rw [w64p (n := xs.length) (by omega) (by omega)]
    exact weak_ren [] mK (chkR_cons mK (chkR_cons mK (chkR_cons mK (chkRm rfl (by decide) rfl (fun _ => rfl) (fun a => by simp [okC]) mK)))) mD mQ
  · simp only [seqK, loopK, blkK, ↓reduceIte]
    refine h1 _ ?_; clear h1 h2
    have hge := of_decide_eq_false h
    obtain rfl : i = xs.length := by omega
    refine ev_seq fun K1 h1 => ev_rf mB ?_
    repeat refine dr_act wN mb ma mc mT mR ?_
    refine dr_nil (h1 _ (ev_ret ?_)); clear h1
    refine retC [32] (hR := ⟨⟨?_, pure_map fun r => by simp [pcell]⟩, trivial⟩)
    show some (rM (wrM m w.a.toNat s (xs.take xs.length))) = _
    rw [List.take_length]
end Go.Ev
namespace Go.Ev
open Go Go.RowKit Go.Proofs

theorem nT {p : Prop} (h : p := by simp only [En_nt]; decide) : p := h
theorem mL {p : Prop} (h : p := by simp only [lookT, Nat.reduceEqDiff, ↓reduceIte]; rfl) : p := h
theorem mlq {p : Prop} (h : p := by simp only [En_nt, lookO, lookT, Nat.reduceEqDiff, Nat.reduceLT, ↓reduceIte] <;> rfl) : p := h
theorem mP {p : Prop} (h : p := by exact ⟨_, _, _, rfl⟩) : p := h

/-- Results in variables and temporaries. -/
theorem retL {E : Env} {res res' : List ResultVar} {σ : St} {rs : List Root} {v : V} {us : List V} (ns : List Nat) (hr : res = res') (h : ResL E (lookT σ.T) (lookR σ.R) res' us) (hv : oneOf us = rnV (fun k => ns.getD k 0) v) (ok : okV true rs.length v = true) (hd : ns.Nodup) (hR : RootsL (lookR σ.R) ns rs) : retK E res v rs .ret σ :=
  ⟨⟨ns, us, by rw [hr]; exact h, hv, hd, hR, ok⟩⟩

/-- The same by reference. -/
theorem retLR {E : Env} {res res' : List ResultVar} {σ : St} {rs' : List (Option Root)} {v : V} {us : List V} (ns : List Nat) (hr : res = res') (h : ResL E (lookT σ.T) (lookR σ.R) res' us) (hv : oneOf us = rnV (dnN E.k0 ns) v) (hd : ns.Nodup ∧ (ns.all fun n => decide (E.k0 ≤ n)) = true) (hl : E.k0 + ns.length = rs'.length) (hR : RootsR (lookR σ.R) (dnN E.k0 ns) 0 rs') : retKR E res v rs' .ret σ :=
  ⟨ns, us, by rw [hr]; exact h, hv, hd.1, hd.2, hl, hR⟩

theorem okB {xs : List Int} : (xs.map cB).all (·.all noN0) = true := by
  refine List.all_eq_true.2 fun x hx => ?_
  obtain ⟨a, _, rfl⟩ := List.mem_map.1 hx
  rfl

theorem cut_all {xs : List (List V)} {n : Nat} (h : xs.length = n) : cut xs 0 n = xs := by
  subst h; simp [cut]

/-- An own memory is read as a list. -/
theorem fM {R : Rs} {n : Nat} {m : List (List Int)} {k : Nat} (h : R n = some (rM m)) (hk : k = m.length) : FrzC R (.ref (n, none) 0 k) (eM m) := by
  refine .ref (xs := m.map cR) (zs := m.map cR) (by rw [act_of h]) (cut_all (by rw [hk]; exact List.length_map ..)) ?_
  exact frzE_map (fun r => .cons (.row okB) .nil) m

/-- Own bytes are read as a list. -/
theorem fB {R : Rs} {p : Pl} {off len : Nat} {xs ys : List Int} (h : getP R p = some (1, xs.map cB)) (hc : (xs.drop off).take len = ys) : FrzC R (.ref p off len) (eB ys) := by
  refine .ref h (zs := ys.map cB) ?_ (norow_noN0 okB)
  rw [← hc, cut_eq, List.map_take, List.map_drop]

theorem fN {R : Rs} {x : V} (h : noN x = true) : Frz R x x := .cell (.same h)
theorem fn {R : Rs} {x : V} (h : noN x = true) : FrzC R x x := .same h

abbrev oM (n : Nat) (m : List (List Int)) : V := .agg [.ref (n, none) 0 m.length]
abbrev zM : V := .agg [.val (.slice none 0 0)]
abbrev zW : V := eW ⟨0, 0, 0, 0⟩
abbrev zG : V := .agg [.val (.slice none 0 0), vi 0, vi 0, vi 0, vi 0, vi 0, vi 0]

theorem okRM {m : List (List Int)} : (rM m).els.all (·.all pcell) = true := pure_map fun r => by simp [pcell]
theorem okB5 {xs : List Int} : (xs.map cB).all (·.all pcell) = true := pure_map fun _ => rfl
theorem okMM {m : List (List Int)} {bd : Nat} : (m.map cR).all (·.all (okC false bd)) = true := okMap (fun _ => by simp [okC]) m
end Go.Ev
namespace Go.Ev
open Go Go.RowKit Go.Proofs

theorem c158 (m : List (List Int)) (xs : List Int) (n : Int) (hl : m.length ≤ 1048576) (hr : ∀ r, r ∈ m → r.length ≤ 1048576) (hx : xs.length ≤ 1048576) :
    Good Try.prog 158 [eMem m, eB xs, vi n] (.tup [oM 0 (m ++ [xs]), eW ⟨m.length, 0, n, xs.length⟩]) [rM (m ++ [xs])] := by
  refine good_of (E := En 27) (fn := Try.f158) (by kernel_rfl) (by kernel_rfl) rfl rfl (by simp only [List.length_cons, List.length_nil]; decide) (fun C0 => ?_)
  simp only [argT, Nat.reduceAdd]
  refine ev_seq fun K1 h1 => ev_rf mB ?_
  repeat refine dr_act wN mb ma mc mT mR ?_
  refine dr_nil (h1 _ ?_); clear h1 K1
  refine ev_seq fun K1 h1 => ev_rf mB ?_
  repeat refine dr_act wN mb ma mc mT mR ?_
  refine dr_callF wN mr mb mx mr (c150 m hl hr) (Nat.le_of_ble_eq_true rfl) mv mT mN ?_
  repeat refine dr_act wN mb ma mc mT mR ?_
  refine dr_nil (h1 _ ?_); clear h1 K1
  refine ev_seq fun K1 h1 => ev_reg mB ?_
  repeat refine dr_act wN mb ma mc mT mR ?_
  refine dr_act wN mb (by simp only [eB]; exact ma) (by exact ⟨by simp only [maxLen]; omega, by omega⟩) mT mR ?_
  refine dr_act wN mb ma (by exact ⟨⟨by decide, by decide, fun x hx => by simp at hx; subst hx; rfl⟩, by simp [notRow], by decide⟩) mT mR ?_
  refine dr_act wN mb ma (by exact ⟨by simp only [maxLen]; omega, by omega⟩) mT mR ?_
  repeat refine dr_act wN mb ma mc mT mR ?_
  refine dr_nil ⟨fun _ => by kernel_rfl, h1 _ ?_⟩; clear h1
  refine ev_seq fun K1 h1 => ev_reg mB ?_
  repeat refine dr_act wN mb ma mc mT mR ?_
  refine dr_nil ⟨fun _ => by kernel_rfl, h1 _ (ev_ret ?_)⟩; clear h1
  refine retL [104] (res' := [.cell 6 31, .cell 7 32]) mr (.cell nT mZ ma mc mP (.cell nT mZ ma mc mP .nil)) ?_ mr (by decide) ⟨⟨?_, okRM⟩, trivial⟩
  · simp only [oM, List.length_append, List.length_cons, List.length_nil]; rfl
  · show some (Root.mk 29 1 (m.map cR ++ [cR xs])) = _
    simp
end Go.Ev
namespace Go.Ev
open Go Go.RowKit Go.Proofs

/-- A valid memory. -/
structure GM (m : List (List Int)) : Prop where
  l : m.length ≤ 16
  r : ∀ r, r ∈ m → r.length ≤ 64
  p : ∀ r, r ∈ m → 1 ≤ r.length

/-- A valid window on a valid memory. -/
structure GW (m : List (List Int)) (w : Win) : Prop where
  g : GM m
  a0 : 0 ≤ w.a
  a1 : w.a < m.length
  s0 : 0 ≤ w.s
  n0 : 0 ≤ w.n
  n1 : w.n ≤ w.c
  c1 : w.s + w.c ≤ (m.getD w.a.toNat []).length

theorem GM.l4 {m : List (List Int)} (h : GM m) : m.length ≤ 1048576 := by have := h.l; omega
theorem GM.r4 {m : List (List Int)} (h : GM m) : ∀ r, r ∈ m → r.length ≤ 1048576 := fun r hr => by have := h.r r hr; omega
theorem GW.row {m : List (List Int)} {w : Win} (h : GW m w) : (m.getD w.a.toNat []).length ≤ 64 := mem_getD h.g.r (by have := h.a0; have := h.a1; omega)
theorem GW.fits {m : List (List Int)} {w : Win} (h : GW m w) : Fits m w :=
  ⟨h.a0, h.a1, h.s0, h.n0, by have := h.n1; have := h.c1; omega, by have := h.row; omega⟩
theorem GW.c64 {m : List (List Int)} {w : Win} (h : GW m w) : w.c ≤ 64 := by have := h.row; have := h.c1; have := h.s0; omega

/-- Zeros behind bytes, up to a length. -/
def padB (xs : List Int) (n : Nat) : List Int := xs ++ List.replicate (n - xs.length) 0
theorem padB_length {xs : List Int} {n : Nat} (h : xs.length ≤ n) : (padB xs n).length = n := by
  simp only [padB, List.length_append, List.length_replicate]; omega
theorem padB_self (xs : List Int) : padB xs xs.length = xs := by simp [padB]
theorem padB_succ {xs : List Int} {n : Nat} (h : xs.length ≤ n) : padB xs n ++ [0] = padB xs (n + 1) := by
  rw [padB, padB, Nat.succ_sub h, List.replicate_succ', List.append_assoc]

/-- The room of a window that moves. -/
def capN (c need : Int) : Int := if (if 2 * c > need then 2 * c else need) < 64 then (if 2 * c > need then 2 * c else need) else 64
theorem capN_le {c need : Int} (h : need ≤ 64) : need ≤ capN c need ∧ capN c need ≤ 64 := by
  unfold capN; split <;> split <;> omega

/-- Memory and window behind appending, if it can be. -/
def apM (m : List (List Int)) (w : Win) (xs : List Int) : Option (List (List Int) × Win) :=
  if xs.length ≤ w.c - w.n then some (wrM m w.a.toNat (w.s + w.n).toNat xs, ⟨w.a, w.s, w.n + xs.length, w.c⟩)
  else if 64 - w.n < xs.length ∨ m.length = 16 then none
  else some (m ++ [padB (bytesOf m w ++ xs) (capN w.c (w.n + xs.length)).toNat], ⟨m.length, 0, w.n + xs.length, capN w.c (w.n + xs.length)⟩)

abbrev oMW : Option (List (List Int) × Win) → V
  | some (m, w) => .tup [oM 0 m, eW w, vb true]
  | none => .tup [zM, zW, vb false]
abbrev rMW : Option (List (List Int) × Win) → List Root
  | some (m, _) => [rM m]
  | none => []

theorem bytesOf_length (m : List (List Int)) (w : Win) : (bytesOf m w).length = w.n.toNat := by simp [bytesOf]

theorem c184 (m : List (List Int)) (w : Win) (xs : List Int) (hw : GW m w) (hx : xs.length ≤ 1048576) : Good Try.prog 184 [eMem m, eW w, eB xs] (oMW (apM m w xs)) (rMW (apM m w xs)) := by
  refine good_of (E := En 78) (fn := Try.f184) (by kernel_rfl) (by kernel_rfl) rfl rfl (by simp only [List.length_cons, List.length_nil]; decide) (fun C0 => ?_)
  have hc := hw.c64
  have hn0 := hw.n0
  have hn1 := hw.n1
  have hs0 := hw.s0
  have hc1 := hw.c1
  have hrow := hw.row
  have hml := hw.g.l
  have w1 : w64 (w.c - w.n) = w.c - w.n := wrap_of (by omega) (by omega)
  have w2 : IntKind.i64.wrap (w.n + (xs.length : Nat)) = w.n + (xs.length : Nat) := wrap_of (by omega) (by omega)
  have w3 : IntKind.i64.wrap (64 - w.n) = 64 - w.n := wrap_of (by omega) (by omega)
  have w4 : IntKind.i64.wrap (2 * w.c) = 2 * w.c := wrap_of (by omega) (by omega)
  simp only [argT, Nat.reduceAdd, eB]
  refine ev_seq fun K1 h1 => ev_rf mB ?_
  repeat refine dr_act wN mb ma mc mT mR ?_
  refine dr_nil (h1 _ ?_); clear h1 K1
  refine ev_seq fun K1 h1 => ?_
  refine ev_seq fun K2 h2 => ev_rf mB ?_
  repeat refine dr_act wN mb ma mc mT mR ?_
  refine dr_callF wN mr mb mx mr (c199 w) (Nat.le_of_ble_eq_true rfl) mv mT mN ?_
  repeat refine dr_act wN mb ma mc mT mR ?_
  refine dr_nil (h2 _ ?_); clear h2
  rw [w1]
  refine ev_cond _ ml (fun h => ?_) (fun h => ev_skip (h1 _ ?_))
  · have hle := of_decide_eq_true h
    have e : apM m w xs = some (wrM m w.a.toNat (w.s + w.n).toNat xs, ⟨w.a, w.s, w.n + xs.length, w.c⟩) := by rw [apM, if_pos hle]
    clear h1
    refine ev_seq fun K2 h2 => ev_reg mB ?_
    repeat refine dr_act wN mb ma mc mT mR ?_
    refine dr_callF wN mr mb mx mr (c106 m w w.n xs hw.g.l4 hw.g.r4 ⟨hw.a0, hw.a1⟩ (by omega) (by omega)) (Nat.le_of_ble_eq_true rfl) mv mT mN ?_
    repeat refine dr_act wN mb ma mc mT mR ?_
    rw [w2]
    refine dr_callF wN mr mb mx mr (c101 w 0 (w.n + (xs.length : Nat)) w.c) (Nat.le_of_ble_eq_true rfl) mv mT mN ?_
    repeat refine dr_act wN mb ma mc mT mR ?_
    refine dr_nil ⟨fun _ => by kernel_rfl, h2 _ (ev_ret ?_)⟩; clear h2
    have w5 : IntKind.i64.wrap (w.s + 0) = w.s := by rw [wrap_of (by omega) (by omega)]; omega
    have w6 : IntKind.i64.wrap (w.n + (xs.length : Nat) - 0) = w.n + (xs.length : Nat) := by rw [wrap_of (by omega) (by omega)]; omega
    have w7 : IntKind.i64.wrap (w.c - 0) = w.c := by rw [wrap_of (by omega) (by omega)]; omega
    simp only [w64, w5, w6, w7]
    rw [e]
    refine retL [120] (res' := [.cell 6 31, .cell 7 32, .tmp 8]) mr (.cell nT mZ ma mc mP (.cell nT mZ ma mc mP (.tmp nT mL .nil))) ?_ mr (by decide) ⟨⟨mr, okRM⟩, trivial⟩
    simp only [oMW, oM, wrM_length]; rfl
  have hgt := of_decide_eq_false h
  clear h1 K1 h
  refine ev_seq fun K1 h1 => ?_
  refine ev_seq fun K2 h2 => ev_rf mB ?_
  repeat refine dr_act wN mb ma mc mT mR ?_
  rw [w3]
  cases hd : decide ((xs.length : Int) > 64 - w.n)
  rotate_left
  · iterate 4 refine dr_skip wG mT ?_
    repeat refine dr_act wN mb ma mc mT mR ?_
    refine dr_nil (h2 _ ?_); clear h2
    refine ev_cond true mlq (fun h => ?_) (fun h => by cases h)
    refine ev_seq fun K2 h2 => ev_rf mB ?_
    repeat refine dr_act wN mb ma mc mT mR ?_
    refine dr_nil (h2 _ (ev_ret ?_)); clear h2 h1
    rw [apM, if_neg hgt, if_pos (.inl (by have := of_decide_eq_true hd; omega))]
    exact retL [] (res' := [.cell 6 31, .cell 7 32, .tmp 8]) mr (.cell nT mZ ma mc mP (.cell nT mZ ma mc mP (.tmp nT mL .nil))) rfl mr (by decide) trivial
  iterate 4 refine dr_act wG mb ma mc mT mR ?_
  repeat refine dr_act wN mb ma mc mT mR ?_
  refine dr_nil (h2 _ ?_); clear h2
  refine ev_cond _ ml (fun h => ?_) (fun h => ev_skip (h1 _ ?_))
  · have hm := of_decide_eq_true h
    refine ev_seq fun K2 h2 => ev_rf mB ?_
    repeat refine dr_act wN mb ma mc mT mR ?_
    refine dr_nil (h2 _ (ev_ret ?_)); clear h2 h1
    rw [apM, if_neg hgt, if_pos (.inr (by omega))]
    exact retL [] (res' := [.cell 6 31, .cell 7 32, .tmp 8]) mr (.cell nT mZ ma mc mP (.cell nT mZ ma mc mP (.tmp nT mL .nil))) rfl mr (by decide) trivial
  have hm := of_decide_eq_false h
  have hle := of_decide_eq_false hd
  clear h1 K1 h hd
  have e : apM m w xs = some (m ++ [padB (bytesOf m w ++ xs) (capN w.c (w.n + xs.length)).toNat], ⟨m.length, 0, w.n + xs.length, capN w.c (w.n + xs.length)⟩) := by rw [apM, if_neg hgt, if_neg (by omega)]
  rw [e]
  have hcap := capN_le (c := w.c) (need := w.n + (xs.length : Nat)) (by omega)
  generalize hall : bytesOf m w ++ xs = all0
  have hal : (all0.length : Int) = w.n + (xs.length : Nat) := by rw [← hall, List.length_append, bytesOf_length]; omega
  refine ev_seq fun K1 h1 => ev_rf mB ?_
  repeat refine dr_act wN mb ma mc mT mR ?_
  refine dr_nil (h1 _ ?_); clear h1 K1
  rw [w2]
  refine ev_seq fun K1 h1 => ev_rf mB ?_
  repeat refine dr_act wN mb ma mc mT mR ?_
  refine dr_callF wN mr mb mx mr (c185 m w hw.fits) (Nat.le_of_ble_eq_true rfl) mv mT mN ?_
  repeat refine dr_act wN mb ma mc mT mR ?_
  refine dr_act wN mb ma (by exact ⟨(bytesOf_length m w).symm, by simp only [maxLen]; omega, by omega⟩) mT mR ?_
  repeat refine dr_act wN mb ma mc mT mR ?_
  refine dr_nil (h1 _ ?_); clear h1 K1
  have hal' : w.n.toNat + xs.length = all0.length := by omega
  rw [hal']
  refine ev_seq fun K1 h1 => ev_block (ev_loop (α := {k : Nat // all0.length ≤ k ∧ k ≤ (capN w.c (w.n + (xs.length : Nat))).toNat}) (fun k => ⟨[(3, .ptr (0, none) 0 0), (4, .ptr (8, none) 0 0), (6, .ptr (16, none) 0 0), (7, .ptr (24, none) 0 0), (9, vi (w.n + (xs.length : Nat))), (10, .ref (256, none) 0 k.1)], [(0, ⟨31, 1, [[eM m]]⟩), (8, ⟨32, 4, [cW w]⟩), (16, ⟨31, 1, [[.val (.slice none 0 0)]]⟩), (24, ⟨32, 4, [[vi 0, vi 0, vi 0, vi 0]]⟩), (256, ⟨5, 1, (padB all0 k.1).map cB⟩)], 272⟩) (fun k => (capN w.c (w.n + (xs.length : Nat))).toNat - k.1) ⟨all0.length, Nat.le_refl _, by omega⟩ (weak_ren [] mK (chkR_cons mK (chkR_cons mK (chkR_cons mK (chkR_cons mK (chkRm rfl (by decide) ?_ (fun _ => rfl) (fun _ => rfl) mK))))) mD mQ) (fun ⟨k, hk0, hk1⟩ => ?_))
  · rw [padB_self, ← hall, List.map_append]
  have hpl := padB_length hk0
  refine ev_seq fun K2 h2 => ev_seq fun K3 h3 => ev_rf mB ?_
  repeat refine dr_act wN mb ma mc mT mR ?_
  rw [w4]
  refine dr_callF wN mr mb mx mr (c201 (2 * w.c) (w.n + (xs.length : Nat))) (Nat.le_of_ble_eq_true rfl) mv mT mN ?_
  refine dr_callF wN mr mb mx mr (c200 _ 64) (Nat.le_of_ble_eq_true rfl) mv mT mN ?_
  repeat refine dr_act wN mb ma mc mT mR ?_
  refine dr_nil (h3 _ ?_); clear h3
  refine ev_cond _ ml (fun h => ev_skip (h2 _ ?_)) (fun h => ev_exit ?_)
  · clear h1 h2
    have hlt : (k : Int) < capN w.c (w.n + (xs.length : Nat)) := of_decide_eq_true h
    refine ev_block (ev_rf mB ?_)
    repeat refine dr_act wN mb ma mc mT mR ?_
    refine dr_act wN mb ma (by exact ⟨hpl.symm, ⟨by simp only [maxLen]; omega, by omega⟩, rfl⟩) mT mR ?_
    repeat refine dr_act wN mb ma mc mT mR ?_
    refine dr_nil ⟨⟨k + 1, by omega, by omega⟩, by simp only []; omega, ?_⟩
    refine weak_ren [(256, 360)] mK (chkR_cons mK (chkR_cons mK (chkR_cons mK (chkR_cons mK (chkRm rfl (by decide) ?_ (fun _ => rfl) (fun _ => rfl) mK))))) mD mQ
    rw [← padB_succ hk0, List.map_append]; rfl
  · simp only [seqK, loopK, blkK, ↓reduceIte]
    refine h1 _ ?_; clear h1 h2
    have hge : ¬ (k : Int) < capN w.c (w.n + (xs.length : Nat)) := of_decide_eq_false h
    have hk : k = (capN w.c (w.n + (xs.length : Nat))).toNat := by omega
    have hkc : (((padB all0 (capN w.c (w.n + (xs.length : Nat))).toNat).length : Nat) : Int) = capN w.c (w.n + (xs.length : Nat)) := by rw [padB_length (by omega)]; omega
    subst hk
    refine ev_seq fun K1 h1 => ev_rf mB ?_
    repeat refine dr_act wN mb ma mc mT mR ?_
    refine dr_call wN mr mb mx (.cons (fN rfl) (.cons (.cell (fB (ys := padB all0 (capN w.c (w.n + (xs.length : Nat))).toNat) mr (by rw [List.drop_zero, List.take_of_length_le (Nat.le_of_eq hpl)]))) (.cons (fN rfl) .nil))) (c158 m (padB all0 (capN w.c (w.n + (xs.length : Nat))).toNat) (w.n + (xs.length : Nat)) hw.g.l4 hw.g.r4 (by omega)) (Nat.le_of_ble_eq_true rfl) mv mT mN ?_
    rw [hkc]
    repeat refine dr_act wN mb ma mc mT mR ?_
    refine dr_nil (h1 _ ?_); clear h1
    refine ev_seq fun K1 h1 => ev_reg mB ?_
    repeat refine dr_act wN mb ma mc mT mR ?_
    refine dr_nil ⟨fun _ => by kernel_rfl, h1 _ (ev_ret ?_)⟩; clear h1
    exact retL [368] (res' := [.cell 6 31, .cell 7 32, .tmp 8]) mr (.cell nT mZ ma mc mP (.cell nT mZ ma mc mP (.tmp nT mL .nil))) rfl mr (by decide) ⟨⟨mr, okRM⟩, trivial⟩
end Go.Ev
namespace Go.Ev
open Go Go.RowKit Go.Proofs

theorem GM.set {m : List (List Int)} (h : GM m) {a : Nat} {r : List Int} (hr : r.length ≤ 64) (hp : 1 ≤ r.length) : GM (m.set a r) := by
  refine ⟨by rw [List.length_set]; exact h.l, fun x hx => ?_, fun x hx => ?_⟩
  · rcases List.mem_or_eq_of_mem_set hx with h1 | rfl
    · exact h.r x h1
    · exact hr
  · rcases List.mem_or_eq_of_mem_set hx with h1 | rfl
    · exact h.p x h1
    · exact hp

theorem GW.wr {m : List (List Int)} {w : Win} (h : GW m w) {s : Nat} {xs : List Int} (hs : s + xs.length ≤ (m.getD w.a.toNat []).length) : GW (wrM m w.a.toNat s xs) w := by
  have ha : w.a.toNat < m.length := by have := h.a0; have := h.a1; omega
  have hl := ovr_length hs
  refine ⟨h.g.set (by rw [hl]; exact h.row) (by rw [hl]; exact mem_getD h.g.p ha), h.a0, by rw [wrM_length]; exact h.a1, h.s0, h.n0, h.n1, ?_⟩
  rw [wrM, getD_set ha, hl]
  exact h.c1

theorem apM_GW {m m' : List (List Int)} {w w' : Win} {xs : List Int} (h : GW m w) (e : apM m w xs = some (m', w')) : GW m' w' ∧ w'.n = w.n + xs.length := by
  have h0 := h.n0
  have h1 := h.n1
  have h2 := h.s0
  have h3 := h.c1
  unfold apM at e
  split at e
  · rename_i hle
    simp only [Option.some.injEq, Prod.mk.injEq] at e
    obtain ⟨rfl, rfl⟩ := e
    have k := h.wr (s := (w.s + w.n).toNat) (xs := xs) (by omega)
    exact ⟨⟨k.g, k.a0, k.a1, k.s0, by show 0 ≤ w.n + _; omega, by show w.n + _ ≤ w.c; omega, k.c1⟩, rfl⟩
  · split at e
    · cases e
    · rename_i hle hno
      simp only [Option.some.injEq, Prod.mk.injEq] at e
      obtain ⟨rfl, rfl⟩ := e
      have hcap := capN_le (c := w.c) (need := w.n + (xs.length : Nat)) (by omega)
      have hp : (padB (bytesOf m w ++ xs) (capN w.c (w.n + (xs.length : Nat))).toNat).length = (capN w.c (w.n + (xs.length : Nat))).toNat := padB_length (by rw [List.length_append, bytesOf_length]; omega)
      have hl := h.g.l
      refine ⟨⟨⟨by rw [List.length_append]; simp only [List.length_cons, List.length_nil]; omega, fun r hr => ?_, fun r hr => ?_⟩, by show (0 : Int) ≤ (m.length : Nat); omega, by rw [List.length_append]; simp only [List.length_cons, List.length_nil]; omega, Int.le_refl 0, by show 0 ≤ w.n + _; omega, hcap.1, ?_⟩, rfl⟩
      · rcases List.mem_append.1 hr with h4 | h4
        · exact h.g.r r h4
        · rw [List.mem_singleton.1 h4, hp]; omega
      · rcases List.mem_append.1 hr with h4 | h4
        · exact h.g.p r h4
        · rw [List.mem_singleton.1 h4, hp]; omega
      · have e1 : (m ++ [padB (bytesOf m w ++ xs) (capN w.c (w.n + (xs.length : Nat))).toNat]).getD (m.length : Int).toNat [] = padB (bytesOf m w ++ xs) (capN w.c (w.n + (xs.length : Nat))).toNat := by
          simp [List.getD_eq_getElem?_getD]
        rw [e1, hp]
        show 0 + capN _ _ ≤ _
        omega

/-- A valid gap. -/
structure GG (g : Gp) : Prop where
  w : GW g.m g.w
  p0 : 0 ≤ g.p
  pq : g.p ≤ g.q
  qn : g.q ≤ g.w.n

def wdG (g : Gp) (n : Int) : Option Gp :=
  if n > 64 then none
  else match apM g.m g.w (List.replicate n.toNat 0) with
    | none => none
    | some (m', w') => some ⟨wrM m' w'.a.toNat (w'.s + (g.q + n)).toNat ((bytesOf g.m g.w).drop g.q.toNat), w', g.p, g.q + n⟩

abbrev oGo : Option Gp → V
  | some g => .tup [oG 0 g, vb true]
  | none => .tup [zG, vb false]
abbrev rGo : Option Gp → List Root
  | some g => [rM g.m]
  | none => []

theorem rep0 {n : Nat} : List.replicate n [V.val (.int .u8 0)] = (List.replicate n (0 : Int)).map cB := by rw [List.map_replicate]

theorem c145 (g : Gp) (n : Int) (hg : GG g) (hn : 0 ≤ n) (hn2 : n ≤ 4000000) : Good Try.prog 145 [eG g, vi n] (oGo (wdG g n)) (rGo (wdG g n)) := by
  refine good_of (E := En 51) (fn := Try.f145) (by kernel_rfl) (by kernel_rfl) rfl rfl (by simp only [List.length_cons, List.length_nil]; decide) (fun C0 => ?_)
  simp only [argT, Nat.reduceAdd]
  refine ev_seq fun K1 h1 => ev_rf mB ?_
  repeat refine dr_act wN mb ma mc mT mR ?_
  refine dr_nil (h1 _ ?_); clear h1 K1
  refine ev_seq fun K1 h1 => ?_
  refine ev_seq fun K2 h2 => ev_rf mB ?_
  repeat refine dr_act wN mb ma mc mT mR ?_
  refine dr_nil (h2 _ ?_); clear h2
  refine ev_cond _ ml (fun h => ?_) (fun h => ev_skip (h1 _ ?_))
  · have hgt := of_decide_eq_true h
    clear h1
    refine ev_seq fun K2 h2 => ev_rf mB ?_
    repeat refine dr_act wN mb ma mc mT mR ?_
    refine dr_nil (h2 _ (ev_ret ?_)); clear h2
    rw [wdG, if_pos hgt]
    exact retL [] (res' := [.cell 4 34, .tmp 5]) mr (.cell nT mZ ma mc mP (.tmp nT mL .nil)) rfl mr (by decide) trivial
  have hle := of_decide_eq_false h
  have hcs := c184 g.m g.w (List.replicate n.toNat 0) hg.w (by rw [List.length_replicate]; omega)
  clear h1 h
  have hwn := hg.w.c64
  have hwn1 := hg.w.n1
  have hwn0 := hg.w.n0
  have hq := hg.qn
  have hq0 : 0 ≤ g.q := Int.le_trans hg.p0 hg.pq
  have w1 : IntKind.i64.wrap (g.q + n) = g.q + n := wrap_of (by omega) (by omega)
  rw [wdG, if_neg hle]
  rcases hap : apM g.m g.w (List.replicate n.toNat 0) with _ | ⟨m', w'⟩
  · rw [hap] at hcs
    simp only []
    refine ev_seq fun K1 h1 => ev_reg mB ?_
    repeat refine dr_act wN mb ma mc mT mR ?_
    refine dr_act wN mb ma (by omega) mT mR ?_
    refine dr_call wN mr mb mx (.cons (fN rfl) (.cons (fN rfl) (.cons (.cell (fB (xs := List.replicate n.toNat 0) (by rw [← rep0]; rfl) (by rw [List.drop_zero, List.take_of_length_le (by rw [List.length_replicate]; exact Nat.le_refl _)]))) .nil))) hcs (Nat.le_of_ble_eq_true rfl) mv mT mN ?_
    repeat refine dr_act wN mb ma mc mT mR ?_
    refine dr_nil ⟨fun _ => by kernel_rfl, h1 _ ?_⟩; clear h1
    refine ev_seq fun K1 h1 => ?_
    refine ev_seq fun K2 h2 => ev_rf mB ?_
    repeat refine dr_act wN mb ma mc mT mR ?_
    refine dr_nil (h2 _ ?_); clear h2
    refine ev_cond true mlq (fun h => ?_) (fun h => by cases h)
    refine ev_seq fun K2 h2 => ev_rf mB ?_
    repeat refine dr_act wN mb ma mc mT mR ?_
    refine dr_nil (h2 _ (ev_ret ?_)); clear h2 h1
    exact retL [] (res' := [.cell 4 34, .tmp 5]) mr (.cell nT mZ ma mc mP (.tmp nT mL .nil)) rfl mr (by decide) trivial
  · rw [hap] at hcs
    obtain ⟨hw', hn'⟩ := apM_GW hg.w hap
    simp only [List.length_replicate] at hn'
    have hbl : ((bytesOf g.m g.w).drop g.q.toNat).length = g.w.n.toNat - g.q.toNat := by rw [List.length_drop, bytesOf_length]
    have k1 := hw'.n1
    have k2 := hw'.c1
    have k3 := hw'.s0
    simp only []
    refine ev_seq fun K1 h1 => ev_reg mB ?_
    repeat refine dr_act wN mb ma mc mT mR ?_
    refine dr_act wN mb ma (by omega) mT mR ?_
    refine dr_call wN mr mb mx (.cons (fN rfl) (.cons (fN rfl) (.cons (.cell (fB (xs := List.replicate n.toNat 0) (by rw [← rep0]; rfl) (by rw [List.drop_zero, List.take_of_length_le (by rw [List.length_replicate]; exact Nat.le_refl _)]))) .nil))) hcs (Nat.le_of_ble_eq_true rfl) mv mT mN ?_
    repeat refine dr_act wN mb ma mc mT mR ?_
    refine dr_nil ⟨fun _ => by kernel_rfl, h1 _ ?_⟩; clear h1
    refine ev_seq fun K1 h1 => ?_
    refine ev_seq fun K2 h2 => ev_rf mB ?_
    repeat refine dr_act wN mb ma mc mT mR ?_
    refine dr_nil (h2 _ ?_); clear h2
    refine ev_cond false mlq (fun h => by cases h) (fun h => ev_skip (h1 _ ?_))
    clear h1
    refine ev_seq fun K1 h1 => ev_reg mB ?_
    repeat refine dr_act wN mb ma mc mT mR ?_
    refine dr_callF wN mr mb mx mr (c185 g.m g.w hg.w.fits) (Nat.le_of_ble_eq_true rfl) mv mT mN ?_
    repeat refine dr_act wN mb ma mc mT mR ?_
    refine dr_slp (a := g.q) (c := (g.w.n.toNat : Nat)) (v := .ref (216, none) g.q.toNat (g.w.n.toNat - g.q.toNat)) wN mr mb ml mr mr mr mS (by omega) (by simp only [Nat.zero_add, Int.toNat_natCast]) mT ?_
    repeat refine dr_act wN mb ma mc mT mR ?_
    refine dr_nil ⟨fun _ => by kernel_rfl, h1 _ ?_⟩; clear h1
    refine ev_seq fun K1 h1 => ev_reg mB ?_
    repeat refine dr_act wN mb ma mc mT mR ?_
    rw [w1]
    refine dr_call wN mr mb mx (.cons (.agg (.cons (fM mr mr) .nil)) (.cons (fN rfl) (.cons (fN rfl) (.cons (.cell (fB mr (List.take_of_length_le (Nat.le_of_eq hbl)))) .nil)))) (c106 m' w' (g.q + n) ((bytesOf g.m g.w).drop g.q.toNat) hw'.g.l4 hw'.g.r4 ⟨hw'.a0, hw'.a1⟩ (by omega) (by rw [hbl]; omega)) (Nat.le_of_ble_eq_true rfl) mv mT mN ?_
    repeat refine dr_act wN mb ma mc mT mR ?_
    rw [w1]
    refine dr_nil ⟨fun _ => by kernel_rfl, h1 _ (ev_ret ?_)⟩; clear h1
    refine retL [312] (res' := [.cell 4 34, .tmp 5]) mr (.cell nT mZ ma mc mP (.tmp nT mL .nil)) ?_ mr (by decide) ⟨⟨mr, okRM⟩, trivial⟩
    simp only [oGo, oG, cG, wrM_length]; rfl
end Go.Ev
namespace Go.Ev
open Go Go.RowKit Go.Proofs

def slB (xs : List Int) (i j : Int) : List Int := (xs.drop i.toNat).take (j.toNat - i.toNat)
theorem slB_le (xs : List Int) (i j : Int) : (slB xs i j).length ≤ j.toNat - i.toNat := List.length_take_le ..

def mvG (g : Gp) (t : Int) : Gp :=
  if t ≤ g.p then ⟨wrM g.m g.w.a.toNat (g.w.s + (t + (g.q - g.p))).toNat (slB (bytesOf g.m g.w) t g.p), g.w, t, t + (g.q - g.p)⟩
  else ⟨wrM g.m g.w.a.toNat (g.w.s + g.p).toNat (slB (bytesOf g.m g.w) g.q (t + (g.q - g.p))), g.w, t, t + (g.q - g.p)⟩
def mvC (g : Gp) (t : Int) : Int := if t ≤ g.p then g.p - t else t - g.p

/-- An own gap is read. -/
theorem fG {R : Rs} {n : Nat} {g : Gp} (h : R n = some (rM g.m)) : Frz R (oG n g) (eG g) :=
  .agg (.cons (fM h rfl) (.cons (fn rfl) (.cons (fn rfl) (.cons (fn rfl) (.cons (fn rfl) (.cons (fn rfl) (.cons (fn rfl) .nil)))))))

theorem c149 (g : Gp) (t : Int) (hg : GG g) (h0 : 0 ≤ t) (ht : t ≤ g.w.n - (g.q - g.p)) : Good Try.prog 149 [eG g, vi t] (.tup [oG 0 (mvG g t), vi (mvC g t)]) [rM (mvG g t).m] := by
  refine good_of (E := En 75) (fn := Try.f149) (by kernel_rfl) (by kernel_rfl) rfl rfl (by simp only [List.length_cons, List.length_nil]; decide) (fun C0 => ?_)
  simp only [argT, Nat.reduceAdd]
  have hwn := hg.w.c64
  have hwn1 := hg.w.n1
  have hwn0 := hg.w.n0
  have hq := hg.qn
  have hp0 := hg.p0
  have hpq := hg.pq
  have hs0 := hg.w.s0
  have hc1 := hg.w.c1
  have w1 : IntKind.i64.wrap (g.q - g.p) = g.q - g.p := wrap_of (by omega) (by omega)
  have w2 : IntKind.i64.wrap (t + (g.q - g.p)) = t + (g.q - g.p) := wrap_of (by omega) (by omega)
  have w3 : IntKind.i64.wrap (g.p - t) = g.p - t := wrap_of (by omega) (by omega)
  have w4 : IntKind.i64.wrap (t - g.p) = t - g.p := wrap_of (by omega) (by omega)
  refine ev_seq fun K1 h1 => ev_rf mB ?_
  repeat refine dr_act wN mb ma mc mT mR ?_
  refine dr_nil (h1 _ ?_); clear h1 K1
  refine ev_seq fun K1 h1 => ev_reg mB ?_
  repeat refine dr_act wN mb ma mc mT mR ?_
  refine dr_callF wN mr mb mx mr (c185 g.m g.w hg.w.fits) (Nat.le_of_ble_eq_true rfl) mv mT mN ?_
  repeat refine dr_act wN mb ma mc mT mR ?_
  refine dr_nil ⟨fun _ => by kernel_rfl, h1 _ ?_⟩; clear h1
  rw [w1]
  refine ev_seq fun K1 h1 => ?_
  refine ev_seq fun K2 h2 => ev_rf mB ?_
  repeat refine dr_act wN mb ma mc mT mR ?_
  refine dr_nil (h2 _ ?_); clear h2
  refine ev_cond _ ml (fun h => ?_) (fun h => ev_skip (h1 _ ?_)) <;> clear h1
  · have hle := of_decide_eq_true h
    have hsl := slB_le (bytesOf g.m g.w) t g.p
    rw [mvG, mvC, if_pos hle, if_pos hle]
    refine ev_seq fun K1 h1 => ev_reg mB ?_
    repeat refine dr_act wN mb ma mc mT mR ?_
    rw [w2]
    refine dr_slp (a := t) (c := g.p) (v := .ref (56, none) t.toNat (g.p.toNat - t.toNat)) wN mr mb ml mr mr mr mS (by omega) (by simp only [Nat.zero_add]) mT ?_
    refine dr_call wN mr mb mx (.cons (fN rfl) (.cons (fN rfl) (.cons (fN rfl) (.cons (.cell (fB mr rfl)) .nil)))) (c106 g.m g.w (t + (g.q - g.p)) (slB (bytesOf g.m g.w) t g.p) hg.w.g.l4 hg.w.g.r4 ⟨hg.w.a0, hg.w.a1⟩ (by omega) (by omega)) (Nat.le_of_ble_eq_true rfl) mv mT mN ?_
    repeat refine dr_act wN mb ma mc mT mR ?_
    refine dr_nil ⟨fun _ => by kernel_rfl, h1 _ ?_⟩; clear h1
    refine ev_seq fun K1 h1 => ev_reg mB ?_
    repeat refine dr_act wN mb ma mc mT mR ?_
    rw [w2, w3]
    refine dr_nil ⟨fun _ => by kernel_rfl, h1 _ (ev_ret ?_)⟩; clear h1
    refine retL [248] (res' := [.cell 4 34, .tmp 5]) mr (.cell nT mZ ma mc mP (.tmp nT mL .nil)) ?_ mr (by decide) ⟨⟨mr, okRM⟩, trivial⟩
    simp only [oG, cG, wrM_length]; rfl
  · have hgt := of_decide_eq_false h
    have hsl := slB_le (bytesOf g.m g.w) g.q (t + (g.q - g.p))
    rw [mvG, mvC, if_neg hgt, if_neg hgt]
    refine ev_seq fun K1 h1 => ev_reg mB ?_
    repeat refine dr_act wN mb ma mc mT mR ?_
    rw [w2]
    refine dr_slp (a := g.q) (c := t + (g.q - g.p)) (v := .ref (56, none) g.q.toNat ((t + (g.q - g.p)).toNat - g.q.toNat)) wN mr mb ml mr mr mr mS (by omega) (by simp only [Nat.zero_add]) mT ?_
    refine dr_call wN mr mb mx (.cons (fN rfl) (.cons (fN rfl) (.cons (fN rfl) (.cons (.cell (fB mr rfl)) .nil)))) (c106 g.m g.w g.p (slB (bytesOf g.m g.w) g.q (t + (g.q - g.p))) hg.w.g.l4 hg.w.g.r4 ⟨hg.w.a0, hg.w.a1⟩ (by omega) (by omega)) (Nat.le_of_ble_eq_true rfl) mv mT mN ?_
    repeat refine dr_act wN mb ma mc mT mR ?_
    refine dr_nil ⟨fun _ => by kernel_rfl, h1 _ ?_⟩; clear h1
    refine ev_seq fun K1 h1 => ev_reg mB ?_
    repeat refine dr_act wN mb ma mc mT mR ?_
    rw [w2, w4]
    refine dr_nil ⟨fun _ => by kernel_rfl, h1 _ (ev_ret ?_)⟩; clear h1
    refine retL [256] (res' := [.cell 4 34, .tmp 5]) mr (.cell nT mZ ma mc mP (.tmp nT mL .nil)) ?_ mr (by decide) ⟨⟨mr, okRM⟩, trivial⟩
    simp only [oG, cG, wrM_length]; rfl

theorem wdG_GG {g h : Gp} {n : Int} (hg : GG g) (hn : 0 ≤ n) (e : wdG g n = some h) : GG h ∧ h.p = g.p ∧ h.q = g.q + n ∧ h.w.n = g.w.n + n := by
  have h1 := hg.p0
  have h2 := hg.pq
  have h3 := hg.qn
  unfold wdG at e
  split at e
  · cases e
  · split at e
    · cases e
    · rename_i m' w' hap
      simp only [Option.some.injEq] at e
      subst e
      obtain ⟨k, kn⟩ := apM_GW hg.w hap
      rw [List.length_replicate] at kn
      have k1 := k.n1
      have k2 := k.c1
      have k3 := k.s0
      have kl : ((bytesOf g.m g.w).drop g.q.toNat).length = g.w.n.toNat - g.q.toNat := by rw [List.length_drop, bytesOf_length]
      exact ⟨⟨k.wr (by rw [kl]; omega), hg.p0, by show g.p ≤ g.q + n; omega, by show g.q + n ≤ w'.n; omega⟩, rfl, rfl, by show w'.n = _; omega⟩

def ptG (g : Gp) (xs : List Int) : Option Gp :=
  match (if xs.length - (g.q - g.p) > 0 then wdG g (xs.length - (g.q - g.p)) else some g) with
  | none => none
  | some h => some ⟨wrM h.m h.w.a.toNat (h.w.s + h.p).toNat xs, h.w, h.p + xs.length, h.q⟩

theorem c84 (g : Gp) (xs : List Int) (hg : GG g) (hx : xs.length ≤ 1048576) : Good Try.prog 84 [eG g, eB xs] (oGo (ptG g xs)) (rGo (ptG g xs)) := by
  refine good_of (E := En 47) (fn := Try.f84) (by kernel_rfl) (by kernel_rfl) rfl rfl (by simp only [List.length_cons, List.length_nil]; decide) (fun C0 => ?_)
  simp only [argT, Nat.reduceAdd, eB]
  have hwn := hg.w.c64
  have hwn1 := hg.w.n1
  have hwn0 := hg.w.n0
  have hq := hg.qn
  have hp0 := hg.p0
  have hpq := hg.pq
  have hs0 := hg.w.s0
  have hc1 := hg.w.c1
  have w1 : IntKind.i64.wrap (g.q - g.p) = g.q - g.p := wrap_of (by omega) (by omega)
  have w2 : IntKind.i64.wrap ((xs.length : Nat) - (g.q - g.p)) = (xs.length : Nat) - (g.q - g.p) := wrap_of (by omega) (by omega)
  have w3 : IntKind.i64.wrap (g.p + (xs.length : Nat)) = g.p + (xs.length : Nat) := wrap_of (by omega) (by omega)
  iterate 2
    refine ev_seq fun K1 h1 => ev_rf mB ?_
    repeat refine dr_act wN mb ma mc mT mR ?_
    refine dr_nil (h1 _ ?_); clear h1 K1
  refine ev_seq fun K1 h1 => ?_
  refine ev_seq fun K2 h2 => ev_rf mB ?_
  repeat refine dr_act wN mb ma mc mT mR ?_
  rw [w1, w2]
  refine dr_nil (h2 _ ?_); clear h2
  refine ev_seq fun K2 h2 => ev_rf mB ?_
  repeat refine dr_act wN mb ma mc mT mR ?_
  refine dr_nil (h2 _ ?_); clear h2
  refine ev_cond _ ml (fun h => ?_) (fun h => ev_skip ?_)
  · have hgt := of_decide_eq_true h
    have hcs := c145 g ((xs.length : Nat) - (g.q - g.p)) hg (by omega) (by omega)
    rcases hwd : wdG g ((xs.length : Nat) - (g.q - g.p)) with _ | v
    · have e : ptG g xs = none := by rw [ptG, if_pos hgt, hwd]
      rw [hwd] at hcs
      rw [e]
      refine ev_seq fun K2 h2 => ev_rf mB ?_
      repeat refine dr_act wN mb ma mc mT mR ?_
      refine dr_callF wN mr mb mx mr hcs (Nat.le_of_ble_eq_true rfl) mv mT mN ?_
      repeat refine dr_act wN mb ma mc mT mR ?_
      refine dr_nil (h2 _ ?_); clear h2
      refine ev_seq fun K2 h2 => ?_
      refine ev_seq fun K3 h3 => ev_rf mB ?_
      repeat refine dr_act wN mb ma mc mT mR ?_
      refine dr_nil (h3 _ ?_); clear h3
      refine ev_cond true mlq (fun h => ?_) (fun h => by cases h)
      refine ev_seq fun K3 h3 => ev_rf mB ?_
      repeat refine dr_act wN mb ma mc mT mR ?_
      refine dr_nil (h3 _ (ev_ret ?_)); clear h3 h2 h1
      exact retL [] (res' := [.cell 4 34, .tmp 5]) mr (.cell nT mZ ma mc mP (.tmp nT mL .nil)) rfl mr (by decide) trivial
    · have e : ptG g xs = some ⟨wrM v.m v.w.a.toNat (v.w.s + v.p).toNat xs, v.w, v.p + xs.length, v.q⟩ := by rw [ptG, if_pos hgt, hwd]
      obtain ⟨gv, vp, vq, vn⟩ := wdG_GG hg (by omega) hwd
      have k1 := gv.w.n1
      have k2 := gv.w.c1
      have k3 := gv.w.s0
      have k4 := gv.qn
      have w4 : IntKind.i64.wrap (v.p + (xs.length : Nat)) = v.p + (xs.length : Nat) := wrap_of (by omega) (by omega)
      rw [hwd] at hcs
      rw [e] at h1 ⊢
      refine ev_seq fun K2 h2 => ev_rf mB ?_
      repeat refine dr_act wN mb ma mc mT mR ?_
      refine dr_callF wN mr mb mx mr hcs (Nat.le_of_ble_eq_true rfl) mv mT mN ?_
      repeat refine dr_act wN mb ma mc mT mR ?_
      refine dr_nil (h2 _ ?_); clear h2
      refine ev_seq fun K2 h2 => ?_
      refine ev_seq fun K3 h3 => ev_rf mB ?_
      repeat refine dr_act wN mb ma mc mT mR ?_
      refine dr_nil (h3 _ ?_); clear h3
      refine ev_cond false mlq (fun h => by cases h) (fun h => ev_skip (h2 _ ?_)); clear h2
      refine ev_rf mB ?_
      repeat refine dr_act wN mb ma mc mT mR ?_
      refine dr_nil (h1 _ ?_); clear h1
      refine ev_seq fun K1 h1 => ev_rf mB ?_
      repeat refine dr_act wN mb ma mc mT mR ?_
      refine dr_call wN mr mb mx (.cons (.agg (.cons (fM mr mr) .nil)) (.cons (fN rfl) (.cons (fN rfl) (.cons (fN rfl) .nil)))) (c106 v.m v.w v.p xs gv.w.g.l4 gv.w.g.r4 ⟨gv.w.a0, gv.w.a1⟩ (by omega) (by omega)) (Nat.le_of_ble_eq_true rfl) mv mT mN ?_
      repeat refine dr_act wN mb ma mc mT mR ?_
      refine dr_nil (h1 _ ?_); clear h1
      iterate 2
        refine ev_seq fun K1 h1 => ev_rf mB ?_
        repeat refine dr_act wN mb ma mc mT mR ?_
        refine dr_nil (h1 _ ?_); clear h1
      rw [w4]
      refine ev_ret ?_
      refine retL [296] (res' := [.cell 4 34, .tmp 5]) mr (.cell nT mZ ma mc mP (.tmp nT mL .nil)) ?_ mr (by decide) ⟨⟨mr, okRM⟩, trivial⟩
      simp only [oGo, oG, cG, wrM_length]; rfl
  · have hle := of_decide_eq_false h
    have e : ptG g xs = some ⟨wrM g.m g.w.a.toNat (g.w.s + g.p).toNat xs, g.w, g.p + xs.length, g.q⟩ := by rw [ptG, if_neg hle]
    rw [e] at h1
    refine h1 _ ?_; clear h1
    refine ev_seq fun K1 h1 => ev_rf mB ?_
    repeat refine dr_act wN mb ma mc mT mR ?_
    refine dr_callF wN mr mb mx mr (c106 g.m g.w g.p xs hg.w.g.l4 hg.w.g.r4 ⟨hg.w.a0, hg.w.a1⟩ (by omega) (by omega)) (Nat.le_of_ble_eq_true rfl) mv mT mN ?_
    repeat refine dr_act wN mb ma mc mT mR ?_
    refine dr_nil (h1 _ ?_); clear h1
    iterate 2
      refine ev_seq fun K1 h1 => ev_rf mB ?_
      repeat refine dr_act wN mb ma mc mT mR ?_
      refine dr_nil (h1 _ ?_); clear h1
    rw [w3]
    refine ev_ret ?_
    refine retL [192] (res' := [.cell 4 34, .tmp 5]) mr (.cell nT mZ ma mc mP (.tmp nT mL .nil)) ?_ mr (by decide) ⟨⟨mr, okRM⟩, trivial⟩
    simp only [oGo, oG, cG, wrM_length]; rfl
end Go.Ev
namespace Go.Ev
open Go Go.RowKit Go.Proofs

def okW (m : List (List Int)) (w : Win) : Bool :=
  okM m && decide (0 ≤ w.a ∧ w.a ≤ (m.length : Nat) - 1) && decide (0 ≤ w.s ∧ w.s ≤ (m.getD w.a.toNat []).length) && decide (0 ≤ w.c ∧ w.c ≤ (m.getD w.a.toNat []).length - w.s) && decide (0 ≤ w.n ∧ w.n ≤ w.c)
def okG (g : Gp) : Bool := okW g.m g.w && decide (0 ≤ g.q ∧ g.q ≤ g.w.n) && decide (0 ≤ g.p ∧ g.p ≤ g.q)

theorem okM_GM {m : List (List Int)} (h : okM m = true) : GM m := by
  simp only [okM, Bool.and_eq_true, decide_eq_true_eq] at h
  have hl : m.length ≤ 16 := by omega
  rw [List.take_of_length_le (by omega)] at h
  refine ⟨hl, fun r hr => ?_, fun r hr => ?_⟩
  all_goals
    have := List.all_eq_true.1 h.1 r hr
    simp only [okRow, decide_eq_true_eq] at this
    omega

theorem okW_GW {m : List (List Int)} {w : Win} (h : okW m w = true) : GW m w := by
  simp only [okW, Bool.and_eq_true, decide_eq_true_eq] at h
  obtain ⟨⟨⟨⟨h1, h2⟩, h3⟩, h4⟩, h5⟩ := h
  exact ⟨okM_GM h1, h2.1, by omega, h3.1, h5.1, h5.2, by omega⟩

theorem okG_GG {g : Gp} (h : okG g = true) : GG g := by
  simp only [okG, Bool.and_eq_true, decide_eq_true_eq] at h
  exact ⟨okW_GW h.1.1, h.2.1, h.2.2, h.1.2.2⟩

theorem GM_okM {m : List (List Int)} (h : GM m) : okM m = true := by
  have hl := h.l
  simp only [okM, Bool.and_eq_true, decide_eq_true_eq]
  refine ⟨List.all_eq_true.2 fun r hr => ?_, by omega⟩
  have hr' := List.mem_of_mem_take hr
  have h1 := h.r r hr'
  have h2 := h.p r hr'
  simp only [okRow, decide_eq_true_eq]
  omega

theorem GG_okG {g : Gp} (h : GG g) : okG g = true := by
  have h1 := h.p0
  have h2 := h.pq
  have h3 := h.qn
  have h4 := h.w.a0
  have h5 := h.w.a1
  have h6 := h.w.s0
  have h7 := h.w.n0
  have h8 := h.w.n1
  have h9 := h.w.c1
  simp only [okG, okW, Bool.and_eq_true, decide_eq_true_eq]
  exact ⟨⟨⟨⟨⟨⟨GM_okM h.w.g, by omega⟩, by omega⟩, by omega⟩, by omega⟩, by omega⟩, by omega⟩

theorem c144 (m : List (List Int)) (w : Win) (hl1 : m.length ≤ 1048576) (hl2 : ∀ r, r ∈ m → r.length ≤ 1048576) : Good Try.prog 144 [eMem m, eW w] (vb (okW m w)) [] := by
  refine good_of (E := En 46) (fn := Try.f144) (by kernel_rfl) (by kernel_rfl) rfl rfl (by simp only [List.length_cons, List.length_nil]; decide) (fun C0 => ?_)
  have w1 : IntKind.i64.wrap ((m.length : Nat) - 1) = (m.length : Nat) - 1 := wrap_of (by omega) (by omega)
  simp only [argT, Nat.reduceAdd]
  refine ev_seq fun K1 h1 => ev_rf mB ?_
  repeat refine dr_act wN mb ma mc mT mR ?_
  refine dr_nil (h1 _ ?_); clear h1 K1
  refine ev_seq fun K1 h1 => ?_
  refine ev_seq fun K2 h2 => ev_rf mB ?_
  repeat refine dr_act wN mb ma mc mT mR ?_
  refine dr_callF wN mr mb mx mr (c164 m (by omega)) (Nat.le_of_ble_eq_true rfl) mv mT mN ?_
  cases hM : okM m
  · repeat refine dr_act wN mb ma mc mT mR ?_
    iterate 8 refine dr_skip wG mT ?_
    repeat refine dr_act wN mb ma mc mT mR ?_
    refine dr_nil (h2 _ ?_); clear h2
    refine ev_cond true mlq (fun h => ?_) (fun h => by cases h)
    refine ev_seq fun K2 h2 => ev_rf mB ?_
    repeat refine dr_act wN mb ma mc mT mR ?_
    refine dr_nil (h2 _ (ev_ret ?_)); clear h2 h1
    exact retT [4] (hv := by rw [okW, hM]; rfl)
  repeat refine dr_act wN mb ma mc mT mR ?_
  repeat refine dr_act wG mb ma mc mT mR ?_
  rw [w1]
  refine dr_callF wG mr mb mx mr (c133 w.a 0 ((m.length : Nat) - 1)) (Nat.le_of_ble_eq_true rfl) mv mT mN ?_
  refine dr_act wG mb ma mc mT mR ?_
  repeat refine dr_act wN mb ma mc mT mR ?_
  refine dr_nil (h2 _ ?_); clear h2
  cases hA : decide (0 ≤ w.a ∧ w.a ≤ (m.length : Nat) - 1)
  · refine ev_cond true mlq (fun h => ?_) (fun h => by cases h)
    refine ev_seq fun K2 h2 => ev_rf mB ?_
    repeat refine dr_act wN mb ma mc mT mR ?_
    refine dr_nil (h2 _ (ev_ret ?_)); clear h2 h1
    exact retT [4] (hv := by rw [okW, hM, hA]; rfl)
  refine ev_cond false mlq (fun h => by cases h) (fun h => ev_skip (h1 _ ?_)); clear h1
  have ha := of_decide_eq_true hA
  have hrow : (m.getD w.a.toNat []).length ≤ 1048576 := mem_getD hl2 (by omega)
  refine ev_seq fun K1 h1 => ev_rf mB ?_
  repeat refine dr_act wN mb ma mc mT mR ?_
  refine dr_ix ([] : List Int) wN mr mb (by simp only [En_nt, lookO, lookT, Nat.reduceEqDiff, Nat.reduceLT, ↓reduceIte]; rfl) ml mS (by omega) mT ?_
  repeat refine dr_act wN mb ma mc mT mR ?_
  refine dr_nil (h1 _ ?_); clear h1
  refine ev_seq fun K1 h1 => ev_rf mB ?_
  repeat refine dr_act wN mb ma mc mT mR ?_
  refine dr_callF wN mr mb mx mr (c133 w.s 0 _) (Nat.le_of_ble_eq_true rfl) mv mT mN ?_
  repeat refine dr_act wN mb ma mc mT mR ?_
  cases hS : decide (0 ≤ w.s ∧ w.s ≤ ((m.getD w.a.toNat []).length : Nat))
  · iterate 7 refine dr_skip wG mT ?_
    repeat refine dr_act wN mb ma mc mT mR ?_
    iterate 5 refine dr_skip wG mT ?_
    repeat refine dr_act wN mb ma mc mT mR ?_
    refine dr_nil (h1 _ (ev_ret ?_)); clear h1
    exact retT [4] (hv := by rw [okW, hM, hA, hS]; rfl)
  have hs := of_decide_eq_true hS
  have w2 : IntKind.i64.wrap (((m.getD w.a.toNat []).length : Nat) - w.s) = ((m.getD w.a.toNat []).length : Nat) - w.s := wrap_of (by omega) (by omega)
  repeat refine dr_act wG mb ma mc mT mR ?_
  rw [w2]
  refine dr_callF wG mr mb mx mr (c133 w.c 0 _) (Nat.le_of_ble_eq_true rfl) mv mT mN ?_
  repeat refine dr_act wN mb ma mc mT mR ?_
  cases hC : decide (0 ≤ w.c ∧ w.c ≤ ((m.getD w.a.toNat []).length : Nat) - w.s)
  · iterate 5 refine dr_skip wG mT ?_
    repeat refine dr_act wN mb ma mc mT mR ?_
    refine dr_nil (h1 _ (ev_ret ?_)); clear h1
    exact retT [4] (hv := by rw [okW, hM, hA, hS, hC]; rfl)
  repeat refine dr_act wG mb ma mc mT mR ?_
  refine dr_callF wG mr mb mx mr (c133 w.n 0 w.c) (Nat.le_of_ble_eq_true rfl) mv mT mN ?_
  repeat refine dr_act wN mb ma mc mT mR ?_
  refine dr_nil (h1 _ (ev_ret ?_)); clear h1
  exact retT [4] (hv := by rw [okW, hM, hA, hS, hC]; rfl)

theorem c83 (g : Gp) (hl1 : g.m.length ≤ 1048576) (hl2 : ∀ r, r ∈ g.m → r.length ≤ 1048576) : Good Try.prog 83 [eG g] (vb (okG g)) [] := by
  refine good_of (E := En 23) (fn := Try.f83) (by kernel_rfl) (by kernel_rfl) rfl rfl (by simp only [List.length_cons, List.length_nil]; decide) (fun C0 => ?_)
  simp only [argT, Nat.reduceAdd]
  refine ev_seq fun K1 h1 => ev_rf mB ?_
  repeat refine dr_act wN mb ma mc mT mR ?_
  refine dr_nil (h1 _ ?_); clear h1 K1
  refine ev_seq fun K1 h1 => ev_rf mB ?_
  repeat refine dr_act wN mb ma mc mT mR ?_
  refine dr_callF wN mr mb mx mr (c144 g.m g.w hl1 hl2) (Nat.le_of_ble_eq_true rfl) mv mT mN ?_
  repeat refine dr_act wN mb ma mc mT mR ?_
  cases hW : okW g.m g.w
  · iterate 6 refine dr_skip wG mT ?_
    repeat refine dr_act wN mb ma mc mT mR ?_
    iterate 5 refine dr_skip wG mT ?_
    repeat refine dr_act wN mb ma mc mT mR ?_
    refine dr_nil (h1 _ (ev_ret ?_)); clear h1
    exact retT [2] (hv := by rw [okG, hW]; rfl)
  repeat refine dr_act wG mb ma mc mT mR ?_
  refine dr_callF wG mr mb mx mr (c133 g.q 0 g.w.n) (Nat.le_of_ble_eq_true rfl) mv mT mN ?_
  repeat refine dr_act wN mb ma mc mT mR ?_
  cases hQ : decide (0 ≤ g.q ∧ g.q ≤ g.w.n)
  · iterate 5 refine dr_skip wG mT ?_
    repeat refine dr_act wN mb ma mc mT mR ?_
    refine dr_nil (h1 _ (ev_ret ?_)); clear h1
    exact retT [2] (hv := by rw [okG, hW, hQ]; rfl)
  repeat refine dr_act wG mb ma mc mT mR ?_
  refine dr_callF wG mr mb mx mr (c133 g.p 0 g.q) (Nat.le_of_ble_eq_true rfl) mv mT mN ?_
  repeat refine dr_act wN mb ma mc mT mR ?_
  refine dr_nil (h1 _ (ev_ret ?_)); clear h1
  exact retT [2] (hv := by rw [okG, hW, hQ]; rfl)
end Go.Ev
namespace Go.Ev
open Go Go.RowKit Go.Proofs

abbrev lgG (g : Gp) : Int := g.w.n - (g.q - g.p)

theorem mvG_GG {g : Gp} {t : Int} (hg : GG g) (h0 : 0 ≤ t) (ht : t ≤ lgG g) : GG (mvG g t) ∧ (mvG g t).p = t ∧ (mvG g t).q = t + (g.q - g.p) ∧ (mvG g t).w = g.w := by
  have ht : t ≤ g.w.n - (g.q - g.p) := ht
  have h1 := hg.p0
  have h2 := hg.pq
  have h3 := hg.qn
  have h4 := hg.w.n1
  have h5 := hg.w.c1
  have h6 := hg.w.s0
  unfold mvG
  split
  · rename_i hle
    have hsl := slB_le (bytesOf g.m g.w) t g.p
    exact ⟨⟨hg.w.wr (by omega), h0, by show t ≤ t + _; omega, by show t + _ ≤ g.w.n; omega⟩, rfl, rfl, rfl⟩
  · rename_i hle
    have hsl := slB_le (bytesOf g.m g.w) g.q (t + (g.q - g.p))
    exact ⟨⟨hg.w.wr (by omega), h0, by show t ≤ t + _; omega, by show t + _ ≤ g.w.n; omega⟩, rfl, rfl, rfl⟩

def edG (g : Gp) (e : Ed) : Option (Gp × Int) :=
  if (0 ≤ e.at_ ∧ e.at_ ≤ lgG g) ∧ 0 ≤ e.n ∧ e.n ≤ lgG g - e.at_ then
    match ptG ⟨(mvG g e.at_).m, (mvG g e.at_).w, (mvG g e.at_).p, (mvG g e.at_).q + e.n⟩ e.s with
    | none => none
    | some h => some (h, mvC g e.at_)
  else none

abbrev oGC : Option (Gp × Int) → V
  | some (g, c) => .tup [oG 0 g, vi c, vb true]
  | none => .tup [zG, vi 0, vb false]
abbrev rGC : Option (Gp × Int) → List Root
  | some (g, _) => [rM g.m]
  | none => []

theorem c90 (g : Gp) (e : Ed) (hg : GG g) (hx : e.s.length ≤ 1048576) : Good Try.prog 90 [eG g, eE e] (oGC (edG g e)) (rGC (edG g e)) := by
  refine good_of (E := En 56) (fn := Try.f90) (by kernel_rfl) (by kernel_rfl) rfl rfl (by simp only [List.length_cons, List.length_nil]; decide) (fun C0 => ?_)
  simp only [argT, Nat.reduceAdd]
  have hwn := hg.w.c64
  have hwn1 := hg.w.n1
  have hwn0 := hg.w.n0
  have hq := hg.qn
  have hp0 := hg.p0
  have hpq := hg.pq
  have hlg : lgG g = g.w.n - (g.q - g.p) := rfl
  have w1 : w64 (g.w.n - w64 (g.q - g.p)) = lgG g := by
    have : w64 (g.q - g.p) = g.q - g.p := wrap_of (by omega) (by omega)
    rw [this]; exact wrap_of (by omega) (by omega)
  refine ev_seq fun K1 h1 => ev_rf mB ?_
  repeat refine dr_act wN mb ma mc mT mR ?_
  refine dr_nil (h1 _ ?_); clear h1 K1
  refine ev_seq fun K1 h1 => ?_
  refine ev_seq fun K2 h2 => ev_reg mB ?_
  repeat refine dr_act wN mb ma mc mT mR ?_
  refine dr_callF wN mr mb mx mr (c148 g) (Nat.le_of_ble_eq_true rfl) mv mT mN ?_
  rw [w1]
  refine dr_callF wN mr mb mx mr (c133 e.at_ 0 (lgG g)) (Nat.le_of_ble_eq_true rfl) mv mT mN ?_
  cases hA : decide (0 ≤ e.at_ ∧ e.at_ ≤ lgG g)
  · have hn : edG g e = none := by rw [edG, if_neg fun h => of_decide_eq_false hA h.1]
    rw [hn] at h1 h2 ⊢
    repeat refine dr_act wN mb ma mc mT mR ?_
    iterate 9 refine dr_skip wG mT ?_
    repeat refine dr_act wN mb ma mc mT mR ?_
    refine dr_nil ⟨fun _ => by kernel_rfl, h2 _ ?_⟩; clear h2
    refine ev_cond true mlq (fun h => ?_) (fun h => by cases h)
    refine ev_seq fun K2 h2 => ev_rf mB ?_
    repeat refine dr_act wN mb ma mc mT mR ?_
    refine dr_nil (h2 _ (ev_ret ?_)); clear h2 h1
    exact retL [] (res' := [.cell 4 34, .tmp 5, .tmp 6]) mr (.cell nT mZ ma mc mP (.tmp nT mL (.tmp nT mL .nil))) rfl mr (by decide) trivial
  have ha := of_decide_eq_true hA
  have w2 : IntKind.i64.wrap (lgG g - e.at_) = lgG g - e.at_ := wrap_of (by omega) (by omega)
  repeat refine dr_act wN mb ma mc mT mR ?_
  repeat refine dr_act wG mb ma mc mT mR ?_
  refine dr_callF wG mr mb mx mr (c148 g) (Nat.le_of_ble_eq_true rfl) mv mT mN ?_
  rw [w1]
  repeat refine dr_act wG mb ma mc mT mR ?_
  rw [w2]
  refine dr_callF wG mr mb mx mr (c133 e.n 0 (lgG g - e.at_)) (Nat.le_of_ble_eq_true rfl) mv mT mN ?_
  refine dr_act wG mb ma mc mT mR ?_
  repeat refine dr_act wN mb ma mc mT mR ?_
  refine dr_nil ⟨fun _ => by kernel_rfl, h2 _ ?_⟩; clear h2
  cases hB : decide (0 ≤ e.n ∧ e.n ≤ lgG g - e.at_)
  · have hn : edG g e = none := by rw [edG, if_neg fun h => of_decide_eq_false hB h.2]
    rw [hn] at h1 ⊢
    refine ev_cond true mlq (fun h => ?_) (fun h => by cases h)
    refine ev_seq fun K2 h2 => ev_rf mB ?_
    repeat refine dr_act wN mb ma mc mT mR ?_
    refine dr_nil (h2 _ (ev_ret ?_)); clear h2 h1
    exact retL [] (res' := [.cell 4 34, .tmp 5, .tmp 6]) mr (.cell nT mZ ma mc mP (.tmp nT mL (.tmp nT mL .nil))) rfl mr (by decide) trivial
  have hb := of_decide_eq_true hB
  refine ev_cond false mlq (fun h => by cases h) (fun h => ev_skip (h1 _ ?_)); clear h1
  obtain ⟨gv, vp, vq, vw⟩ := mvG_GG hg ha.1 ha.2
  have hcm := c149 g e.at_ hg ha.1 ha.2
  rw [edG, if_pos ⟨ha, hb⟩]
  generalize mvG g e.at_ = v at *
  generalize mvC g e.at_ = cst at *
  have w3 : IntKind.i64.wrap (v.q + e.n) = v.q + e.n := wrap_of (by omega) (by omega)
  have hgp : GG ⟨v.m, v.w, v.p, v.q + e.n⟩ := ⟨gv.w, gv.p0, by show v.p ≤ v.q + _; omega, by show v.q + e.n ≤ v.w.n; rw [vw]; omega⟩
  have hcp := c84 ⟨v.m, v.w, v.p, v.q + e.n⟩ e.s hgp hx
  refine ev_seq fun K1 h1 => ev_rf mB ?_
  repeat refine dr_act wN mb ma mc mT mR ?_
  refine dr_callF wN mr mb mx mr hcm (Nat.le_of_ble_eq_true rfl) mv mT mN ?_
  repeat refine dr_act wN mb ma mc mT mR ?_
  refine dr_nil (h1 _ ?_); clear h1
  rcases hpt : ptG ⟨v.m, v.w, v.p, v.q + e.n⟩ e.s with _ | r
  · rw [hpt] at hcp
    simp only []
    refine ev_seq fun K1 h1 => ev_reg mB ?_
    repeat refine dr_act wN mb ma mc mT mR ?_
    rw [w3]
    refine dr_call wN mr mb mx (.cons (fG mr) (.cons (fN rfl) (.cons (fN rfl) .nil))) (c94 v v.p (v.q + e.n) gv.w.g.l4 gv.w.g.r4) (Nat.le_of_ble_eq_true rfl) mv mT mN ?_
    repeat refine dr_act wN mb ma mc mT mR ?_
    refine dr_call wN mr mb mx (.cons (fG (g := ⟨v.m, v.w, v.p, v.q + e.n⟩) mr) (.cons (fN rfl) .nil)) hcp (Nat.le_of_ble_eq_true rfl) mv mT mN ?_
    repeat refine dr_act wN mb ma mc mT mR ?_
    refine dr_nil ⟨fun _ => by kernel_rfl, h1 _ ?_⟩; clear h1
    refine ev_seq fun K1 h1 => ?_
    refine ev_seq fun K2 h2 => ev_rf mB ?_
    repeat refine dr_act wN mb ma mc mT mR ?_
    refine dr_nil (h2 _ ?_); clear h2
    refine ev_cond true mlq (fun h => ?_) (fun h => by cases h)
    refine ev_seq fun K2 h2 => ev_rf mB ?_
    repeat refine dr_act wN mb ma mc mT mR ?_
    refine dr_nil (h2 _ (ev_ret ?_)); clear h2 h1
    exact retL [] (res' := [.cell 4 34, .tmp 5, .tmp 6]) mr (.cell nT mZ ma mc mP (.tmp nT mL (.tmp nT mL .nil))) rfl mr (by decide) trivial
  · rw [hpt] at hcp
    simp only []
    refine ev_seq fun K1 h1 => ev_reg mB ?_
    repeat refine dr_act wN mb ma mc mT mR ?_
    rw [w3]
    refine dr_call wN mr mb mx (.cons (fG mr) (.cons (fN rfl) (.cons (fN rfl) .nil))) (c94 v v.p (v.q + e.n) gv.w.g.l4 gv.w.g.r4) (Nat.le_of_ble_eq_true rfl) mv mT mN ?_
    repeat refine dr_act wN mb ma mc mT mR ?_
    refine dr_call wN mr mb mx (.cons (fG (g := ⟨v.m, v.w, v.p, v.q + e.n⟩) mr) (.cons (fN rfl) .nil)) hcp (Nat.le_of_ble_eq_true rfl) mv mT mN ?_
    repeat refine dr_act wN mb ma mc mT mR ?_
    refine dr_nil ⟨fun _ => by kernel_rfl, h1 _ ?_⟩; clear h1
    refine ev_seq fun K1 h1 => ?_
    refine ev_seq fun K2 h2 => ev_rf mB ?_
    repeat refine dr_act wN mb ma mc mT mR ?_
    refine dr_nil (h2 _ ?_); clear h2
    refine ev_cond false mlq (fun h => by cases h) (fun h => ev_skip (h1 _ ?_)); clear h1
    refine ev_seq fun K1 h1 => ev_rf mB ?_
    repeat refine dr_act wN mb ma mc mT mR ?_
    refine dr_nil (h1 _ (ev_ret ?_)); clear h1
    exact retL [344] (res' := [.cell 4 34, .tmp 5, .tmp 6]) mr (.cell nT mZ ma mc mP (.tmp nT mL (.tmp nT mL .nil))) rfl mr (by decide) ⟨⟨mr, okRM⟩, trivial⟩

def dE (g : Gp) (e : Ed) : Option (Gp × Int) := if okG g = true then edG g e else none

theorem c24 (g : Gp) (e : Ed) (hl1 : g.m.length ≤ 1048576) (hl2 : ∀ r, r ∈ g.m → r.length ≤ 1048576) (hx : e.s.length ≤ 1048576) : Good Try.prog 24 [eG g, eE e] (oGC (dE g e)) (rGC (dE g e)) := by
  refine good_of (E := En 17) (fn := Try.f24) (by kernel_rfl) (by kernel_rfl) rfl rfl (by simp only [List.length_cons, List.length_nil]; decide) (fun C0 => ?_)
  simp only [argT, Nat.reduceAdd]
  refine ev_seq fun K1 h1 => ev_rf mB ?_
  repeat refine dr_act wN mb ma mc mT mR ?_
  refine dr_nil (h1 _ ?_); clear h1 K1
  refine ev_seq fun K1 h1 => ?_
  refine ev_seq fun K2 h2 => ev_rf mB ?_
  repeat refine dr_act wN mb ma mc mT mR ?_
  refine dr_callF wN mr mb mx mr (c83 g hl1 hl2) (Nat.le_of_ble_eq_true rfl) mv mT mN ?_
  cases hG : okG g
  · have hn : dE g e = none := by rw [dE, if_neg (by rw [hG]; decide)]
    rw [hn] at h1 h2 ⊢
    repeat refine dr_act wN mb ma mc mT mR ?_
    refine dr_nil (h2 _ ?_); clear h2
    refine ev_cond true mlq (fun h => ?_) (fun h => by cases h)
    refine ev_seq fun K2 h2 => ev_rf mB ?_
    repeat refine dr_act wN mb ma mc mT mR ?_
    refine dr_nil (h2 _ (ev_ret ?_)); clear h2 h1
    exact retL [] (res' := [.cell 4 34, .tmp 5, .tmp 6]) mr (.cell nT mZ ma mc mP (.tmp nT mL (.tmp nT mL .nil))) rfl mr (by decide) trivial
  have hn : dE g e = edG g e := by rw [dE, if_pos hG]
  have hce := c90 g e (okG_GG hG) hx
  rw [hn] at h1 h2 ⊢
  repeat refine dr_act wN mb ma mc mT mR ?_
  refine dr_nil (h2 _ ?_); clear h2
  refine ev_cond false mlq (fun h => by cases h) (fun h => ev_skip (h1 _ ?_)); clear h1
  rcases hed : edG g e with _ | ⟨r, c⟩
  · rw [hed] at hce
    refine ev_seq fun K1 h1 => ev_rf mB ?_
    repeat refine dr_act wN mb ma mc mT mR ?_
    refine dr_callF wN mr mb mx mr hce (Nat.le_of_ble_eq_true rfl) mv mT mN ?_
    repeat refine dr_act wN mb ma mc mT mR ?_
    refine dr_nil (h1 _ (ev_ret ?_)); clear h1
    exact retL [] (res' := [.cell 4 34, .tmp 5, .tmp 6]) mr (.cell nT mZ ma mc mP (.tmp nT mL (.tmp nT mL .nil))) rfl mr (by decide) trivial
  · rw [hed] at hce
    refine ev_seq fun K1 h1 => ev_rf mB ?_
    repeat refine dr_act wN mb ma mc mT mR ?_
    refine dr_callF wN mr mb mx mr hce (Nat.le_of_ble_eq_true rfl) mv mT mN ?_
    repeat refine dr_act wN mb ma mc mT mR ?_
    refine dr_nil (h1 _ (ev_ret ?_)); clear h1
    exact retL [80] (res' := [.cell 4 34, .tmp 5, .tmp 6]) mr (.cell nT mZ ma mc mP (.tmp nT mL (.tmp nT mL .nil))) rfl mr (by decide) ⟨⟨mr, okRM⟩, trivial⟩
end Go.Ev
