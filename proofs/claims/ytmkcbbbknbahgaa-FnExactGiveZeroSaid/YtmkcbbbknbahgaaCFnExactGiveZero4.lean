/- This text proves the given statement of the law FnExactGiveZero: for every input the law returns true and its arguments read afterwards as before. Conditions: those of the given row and no other. -/
import Derived.Test.YtmkcbbbknbahgaaCFnExactGiveZero3
import Derived.Test.YtmkcbbbknbahgaaRows
import Derived.WalkKit
import Derived.ProofKit
import Derived.OpenShut
import Derived.ShutString
import Derived.ChangeOld
import Derived.Below
import Derived.SizedLaws
namespace Go.Proofs.Ytmkcbbbknbahgaa.P
open Go.RowKit Go.Proofs.YtmkcbbbknbahgaaW.PrintWords Go.Proofs.YtmkcbbbknbahgaaW.PrintLast Go.Proofs.YtmkcbbbknbahgaaW.PrintMore
set_option linter.unusedVariables false

theorem in_is (a b c : Int) : spec_l1In.f a b c = some (decide (b ≤ a ∧ a ≤ c)) := by
  unfold spec_l1In.f
  by_cases h : a ≥ b
  · rw [if_pos h]; congr 1; simp only [decide_eq_decide]; omega
  · rw [if_neg h]; congr 1; symm; simp only [decide_eq_false_iff_not]; omega

theorem within_is (a b c : Int) : impl_within.f a b c = some (decide (b ≤ a ∧ a ≤ c)) := by
  unfold impl_within.f
  by_cases h : a ≥ b
  · rw [if_pos h]; congr 1; simp only [decide_eq_decide]; omega
  · rw [if_neg h]; congr 1; symm; simp only [decide_eq_false_iff_not]; omega

/-- A valid memory. -/
def IsMem (m : List (List Int)) : Prop := m.length ≤ 16 ∧ ∀ z ∈ m, 1 ≤ z.length ∧ z.length ≤ 64

instance (m : List (List Int)) : Decidable (IsMem m) := by unfold IsMem; infer_instance

theorem IsMem.at {m : List (List Int)} (h : IsMem m) {i : Nat} (hi : i < m.length) : 1 ≤ m[i].length ∧ m[i].length ≤ 64 := h.2 _ (List.getElem_mem hi)

theorem l2Memory_is {m : List (List Int)} (h : m.length ≤ maxLen) : Ter (fun k => spec_l2Memory.f k m) (decide (IsMem m)) := by
  rw [maxLen_] at h
  unfold spec_l2Memory.f
  have key := down_ (Q := fun i => (∀ j, j < i → ∀ hj : j < m.length, 1 ≤ m[j].length ∧ m[j].length ≤ 64) → Ter (fun k => spec_l2Memory.l0 k (i : Int) m) (decide (IsMem m))) m.length
    (fun ok => by
      refine Ter.succ ?_
      simp only [spec_l2Memory.l0]
      refine Ter.ifn (by omega) (Ter.succ ?_)
      simp only [spec_l2Memory.j1]
      refine Ter.ifn (by simp) ((Ter.ret _).eq ?_)
      simp only [decide_eq_decide]
      constructor
      · intro h1
        refine ⟨by omega, fun z hz => ?_⟩
        obtain ⟨j, hj, rfl⟩ := List.getElem_of_mem hz
        exact ok j hj hj
      · intro h1; have := h1.1; omega)
    (fun i hi ih ok => by
      refine Ter.succ ?_
      simp only [spec_l2Memory.l0]
      refine Ter.ifp (by omega) (Ter.succ ?_)
      simp only [spec_l2Memory.j1]
      by_cases h16 : (i : Int) ≤ 16
      · refine Ter.ifp (by simpa using h16) (Ter.ifp (by omega) (Ter.ifp (by omega) ?_))
        rw [show rd_L1 m (i : Int) = m[i] from getD_at hi, in_is]
        by_cases hl : 1 ≤ (m[i].length : Int) ∧ (m[i].length : Int) ≤ 64
        · refine Ter.ifp (c := decide _ = true) (by simpa using hl) ?_
          rw [w64s hi (by omega)]
          exact ih (fun j hj hj2 => by
            by_cases hji : j = i
            · subst hji; omega
            · exact ok j (by omega) hj2)
        · refine Ter.ifn (c := decide _ = true) (by simpa using hl) ((Ter.ret _).eq ?_)
          symm
          simp only [decide_eq_false_iff_not]
          intro h1
          have := h1.at hi
          omega
      · refine Ter.ifn (by simpa using h16) ((Ter.ret _).eq ?_)
        simp only [decide_eq_decide]
        constructor
        · intro h1; omega
        · intro h1; have := h1.1; omega) 0 (by omega)
  exact key (fun j hj => by omega)

theorem isMemory_is {m : List (List Int)} (h : m.length ≤ maxLen) : Ter (fun k => impl_IsMemory.f k m) (decide (IsMem m)) := by
  rw [maxLen_] at h
  unfold impl_IsMemory.f
  have key := down_ (Q := fun i => (∀ j, j < i → ∀ hj : j < m.length, 1 ≤ m[j].length ∧ m[j].length ≤ 64) → Ter (fun k => impl_IsMemory.l0 k m (m.length : Int) (i : Int) m) (decide (IsMem m))) m.length
    (fun ok => by
      refine Ter.succ ?_
      simp only [impl_IsMemory.l0]
      refine Ter.ifn (by omega) ((Ter.ret _).eq ?_)
      simp only [decide_eq_decide]
      constructor
      · intro h1
        refine ⟨by omega, fun z hz => ?_⟩
        obtain ⟨j, hj, rfl⟩ := List.getElem_of_mem hz
        exact ok j hj hj
      · intro h1; have := h1.1; omega)
    (fun i hi ih ok => by
      refine Ter.succ ?_
      simp only [impl_IsMemory.l0]
      refine Ter.ifp (by omega) (Ter.ifp (by omega) (Ter.ifp (by omega) ?_))
      rw [show rd_L1 m (i : Int) = m[i] from getD_at hi, within_is]
      by_cases hl : 1 ≤ (m[i].length : Int) ∧ (m[i].length : Int) ≤ 64
      · refine Ter.ifp (c := decide _ = true) (by simpa using hl) ?_
        rw [w64s hi (by omega)]
        exact ih (fun j hj hj2 => by
          by_cases hji : j = i
          · subst hji; omega
          · exact ok j (by omega) hj2)
      · refine Ter.ifn (c := decide _ = true) (by simpa using hl) ((Ter.ret _).eq ?_)
        symm
        simp only [decide_eq_false_iff_not]
        intro h1
        have := h1.at hi
        omega) 0 (by omega)
  exact key (fun j hj => by omega)

/-- A window of the memory. -/
def OnMem (m : List (List Int)) (a s n c : Int) : Prop := 0 ≤ a ∧ a < m.length ∧ 0 ≤ s ∧ s + c ≤ ((m.getD a.toNat []).length : Int) ∧ 0 ≤ n ∧ n ≤ c

instance (m : List (List Int)) (a s n c : Int) : Decidable (OnMem m a s n c) := by unfold OnMem; infer_instance

theorem OnMem.c0 {m : List (List Int)} {a s n c : Int} (h : OnMem m a s n c) : 0 ≤ c := by obtain ⟨_, _, _, _, _, _⟩ := h; omega

theorem l2Window_is {m : List (List Int)} {a s n c : Int} (h : m.length ≤ maxLen) (hz : ∀ z ∈ m, z.length ≤ maxLen) : Ter (fun k => spec_l2Window.f k m a s n c) (decide (IsMem m ∧ OnMem m a s n c)) := by
  have h' := h
  rw [maxLen_] at h'
  unfold spec_l2Window.f
  refine (l2Memory_is h).bind ?_
  by_cases hm : IsMem m
  · refine Ter.ifp (by simpa using hm) ?_
    rw [in_is, w64 (by omega) (by omega)]
    refine Ter.bind (F := fun _ => some _) (Ter.ret _) (Ter.succ ?_)
    simp only [spec_l2Window.j0]
    by_cases ha : 0 ≤ a ∧ a ≤ (m.length : Int) - 1
    · refine Ter.ifn (by simp [ha]) (Ter.ifp (by omega) (Ter.ifp (by omega) ?_))
      obtain ⟨i, rfl⟩ : ∃ i : Nat, a = (i : Int) := ⟨a.toNat, by omega⟩
      have hi : i < m.length := by omega
      rw [show rd_L1 m (i : Int) = m[i] from getD_at hi]
      simp only [in_is, Option.bind_some]
      have hl := hm.at hi
      by_cases h1 : 0 ≤ s ∧ s ≤ (m[i].length : Int)
      · rw [w64 (by omega) (by omega)]
        refine Ter.ifp (by simpa using h1) ?_
        by_cases h2 : 0 ≤ c ∧ c ≤ (m[i].length : Int) - s
        · refine Ter.ifp (by simpa using h2) ((Ter.ret _).eq ?_)
          simp only [decide_eq_decide]
          unfold OnMem
          rw [getD_at hi]
          constructor
          · intro h3; exact ⟨hm, by omega⟩
          · intro h3; obtain ⟨_, h4⟩ := h3; omega
        · refine Ter.ifn (by simpa using h2) ((Ter.ret _).eq ?_)
          symm
          simp only [decide_eq_false_iff_not]
          unfold OnMem
          rw [getD_at hi]
          rintro ⟨_, h4⟩; omega
      · refine Ter.ifn (by simpa using h1) ((Ter.ret _).eq ?_)
        symm
        simp only [decide_eq_false_iff_not]
        unfold OnMem
        rw [getD_at hi]
        rintro ⟨_, h4⟩; omega
    · refine Ter.ifp (by simp only [Bool.not_eq_true', decide_eq_false_iff_not]; omega) ((Ter.ret _).eq ?_)
      symm
      simp only [decide_eq_false_iff_not]
      unfold OnMem
      rintro ⟨_, h4⟩; omega
  · refine Ter.ifn (by simpa using hm) (Ter.succ ?_)
    simp only [spec_l2Window.j0]
    simp only [if_true]
    refine (Ter.ret _).eq ?_
    symm
    simp only [decide_eq_false_iff_not]
    exact fun h1 => hm h1.1

theorem hasWindow_is {m : List (List Int)} {a s n c : Int} (hm : IsMem m) (hs : wf64 s) (hc : wf64 c) : impl_Memory_hasWindow.f m a s n c = some (decide (OnMem m a s n c)) := by
  have hml := hm.1
  unfold impl_Memory_hasWindow.f impl_Memory_hasArray.f
  simp only [within_is, Option.bind_some, decide_eq_true_eq]
  rw [w64 (n := (m.length : Int) - 1) (by omega) (by omega)]
  by_cases ha : 0 ≤ a ∧ a ≤ (m.length : Int) - 1
  · rw [if_pos ha]
    obtain ⟨i, rfl⟩ : ∃ i : Nat, a = (i : Int) := ⟨a.toNat, by omega⟩
    have hi : i < m.length := by omega
    have hl := hm.at hi
    rw [show rd_L1 m (i : Int) = m[i] from getD_at hi]
    by_cases h1 : 0 ≤ c ∧ c ≤ 64
    · rw [if_pos h1]
      by_cases h2 : 0 ≤ n ∧ n ≤ c
      · rw [if_pos h2, if_pos (by omega), if_pos (by omega), w64 (by omega) (by omega)]
        congr 1
        simp only [decide_eq_decide]
        unfold OnMem
        rw [getD_at hi]
        omega
      · rw [if_neg h2]
        congr 1
        symm
        simp only [decide_eq_false_iff_not]
        unfold OnMem
        rw [getD_at hi]
        omega
    · rw [if_neg h1]
      congr 1
      symm
      simp only [decide_eq_false_iff_not]
      unfold OnMem
      rw [getD_at hi]
      omega
  · rw [if_neg ha]
    congr 1
    symm
    simp only [decide_eq_false_iff_not]
    unfold OnMem
    omega

theorem l2Own_is {m : List (List Int)} (h : IsMem m) : Ter (fun k => spec_l2Own.f k m) m := by
  have hml := h.1
  unfold spec_l2Own.f
  have key := down_ (Q := fun i => Ter (fun k => spec_l2Own.l0 k (i : Int) m (m.take i)) m) m.length
    (Ter.succ (by simp only [spec_l2Own.l0]; exact Ter.ifn (by omega) ((Ter.ret _).eq (List.take_length))))
    (fun i hi ih => by
      refine Ter.succ ?_
      simp only [spec_l2Own.l0]
      have hl := h.at hi
      rw [show rd_L1 m (i : Int) = m[i] from getD_at hi]
      refine Ter.ifp (by omega) (Ter.bind (F := fun _ => some _) (Ter.ret _) (Ter.ifp (by omega) (Ter.ifp (by simp; omega) (Ter.ifp (by simp; omega) ?_))))
      rw [w64s hi (by omega), List.nil_append, take_one hi]
      exact ih) 0 (by omega)
  simpa using key

theorem memOwn_is {m : List (List Int)} (h : IsMem m) : Ter (fun k => impl_Memory_own.f k m) m := by
  have hml := h.1
  unfold impl_Memory_own.f
  have key := down_ (Q := fun i => Ter (fun k => impl_Memory_own.l0 k m (m.length : Int) (i : Int) (m.take i)) m) m.length
    (Ter.succ (by simp only [impl_Memory_own.l0]; exact Ter.ifn (by omega) ((Ter.ret _).eq (List.take_length))))
    (fun i hi ih => by
      refine Ter.succ ?_
      simp only [impl_Memory_own.l0]
      have hl := h.at hi
      rw [show rd_L1 m (i : Int) = m[i] from getD_at hi]
      refine Ter.ifp (by omega) (Ter.ifp (by omega) (Ter.ifp (by omega) ?_))
      refine Ter.bind (F := fun _ => slices_Clone_byte.f _) (Ter.const (by unfold slices_Clone_byte.f; rw [if_pos (by omega)])) (Ter.ifp (by simp; omega) ?_)
      rw [w64s hi (by omega), take_one hi]
      exact ih) 0 (by omega)
  simpa using key
end Go.Proofs.Ytmkcbbbknbahgaa.P
namespace Go.Proofs.Ytmkcbbbknbahgaa.P
open Go.RowKit Go.Proofs.YtmkcbbbknbahgaaW.PrintWords Go.Proofs.YtmkcbbbknbahgaaW.PrintLast Go.Proofs.YtmkcbbbknbahgaaW.PrintMore
set_option linter.unusedVariables false

def OnW (m : List (List Int)) (w : S32) : Prop := OnMem m w.f0 w.f1 w.f2 w.f3

instance (m : List (List Int)) (w : S32) : Decidable (OnW m w) := by unfold OnW; infer_instance

def AreOn (m : List (List Int)) (ws : List S32) : Prop := IsMem m ∧ ∀ w ∈ ws, OnW m w

instance (m : List (List Int)) (ws : List S32) : Decidable (AreOn m ws) := by unfold AreOn; infer_instance

theorem areOn_is {m : List (List Int)} {ws : List S32} (h : m.length ≤ maxLen) (hw : ∀ w ∈ ws, wfW w) : Ter (fun k => impl_areOn.f k m ws) (decide (AreOn m ws)) := by
  unfold impl_areOn.f
  refine (isMemory_is h).bind ((Ter.ret _).eq ?_)
  by_cases hm : IsMem m
  · simp only [hm, decide_true, Bool.true_and]
    rw [Bool.eq_iff_iff]
    simp only [List.all_eq_true, decide_eq_true_eq]
    constructor
    · intro h1
      refine ⟨hm, fun w hw1 => ?_⟩
      have := h1 w hw1
      unfold hasW at this
      rw [hasWindow_is hm (hw w hw1).2.1 (hw w hw1).2.2.2] at this
      simpa [OnW] using this
    · intro h1 w hw1
      unfold hasW
      rw [hasWindow_is hm (hw w hw1).2.1 (hw w hw1).2.2.2]
      simpa [OnW] using h1.2 w hw1
  · simp only [hm, decide_false, Bool.false_and]
    symm
    simp only [decide_eq_false_iff_not]
    exact fun h1 => hm h1.1
end Go.Proofs.Ytmkcbbbknbahgaa.P
namespace Go.Proofs.Ytmkcbbbknbahgaa.P
open Go.RowKit Go.Proofs.YtmkcbbbknbahgaaW.PrintWords Go.Proofs.YtmkcbbbknbahgaaW.PrintLast Go.Proofs.YtmkcbbbknbahgaaW.PrintMore
set_option linter.unusedVariables false

def Rising (l : List Int) : Prop := ∀ i, i + 1 < l.length → l.getD i 0 ≤ l.getD (i + 1) 0

instance (l : List Int) : Decidable (Rising l) := decidable_of_iff (∀ i, i < l.length → i + 1 < l.length → l.getD i 0 ≤ l.getD (i + 1) 0) ⟨fun h i hi => h i (by omega) hi, fun h i _ hi => h i hi⟩

def IsArena (m : List (List Int)) (a s n c u : Int) (l : List Int) : Prop := IsMem m ∧ OnMem m a s n c ∧ 0 ≤ u ∧ u ≤ n ∧ l.length ≤ 8 ∧ (∀ x ∈ l, 0 ≤ x ∧ x ≤ u) ∧ Rising l

instance (m : List (List Int)) (a s n c u : Int) (l : List Int) : Decidable (IsArena m a s n c u l) := by unfold IsArena; infer_instance

theorem rdn {l : List Int} (i : Nat) : rd l (i : Int) = l.getD i 0 := by unfold rd; rw [Int.toNat_natCast]

theorem getD_get {l : List Int} {i : Nat} (h : i < l.length) : l.getD i 0 = l[i] := by rw [List.getD_eq_getElem?_getD, List.getElem?_eq_getElem h]; rfl

theorem l8Arena_is {m : List (List Int)} {a s n c u : Int} {l : List Int} (h : m.length ≤ maxLen) (hz : ∀ z ∈ m, z.length ≤ maxLen) (hl : l.length ≤ maxLen) : Ter (fun k => spec_l8Arena.f k m a s n c u l) (decide (IsArena m a s n c u l)) := by
  rw [maxLen_] at hl
  unfold spec_l8Arena.f
  refine (l2Window_is h hz).bind ?_
  by_cases h1 : IsMem m ∧ OnMem m a s n c
  · refine Ter.ifp (by simpa using h1) ?_
    simp only [in_is, Option.bind_some]
    by_cases h2 : 0 ≤ u ∧ u ≤ n
    · refine Ter.ifp (by simpa using h2) (Ter.succ ?_)
      simp only [spec_l8Arena.j0]
      by_cases h3 : (l.length : Int) > 8
      · refine Ter.ifp (by simpa using h3) ((Ter.ret _).eq ?_)
        symm
        simp only [decide_eq_false_iff_not]
        intro h4
        have := h4.2.2.2.2.1
        omega
      · refine Ter.ifn (by simpa using h3) ?_
        have key := down_ (Q := fun i => (∀ j, j < i → ∀ hj : j < l.length, 0 ≤ l[j] ∧ l[j] ≤ u) → (∀ j, j + 1 < i → j + 1 < l.length → l.getD j 0 ≤ l.getD (j + 1) 0) → Ter (fun k => spec_l8Arena.l0 k (i : Int) m a s n c u l) (decide (IsArena m a s n c u l))) l.length
          (fun ok1 ok2 => by
            refine Ter.succ ?_
            simp only [spec_l8Arena.l0]
            refine Ter.ifn (by omega) ((Ter.ret _).eq ?_)
            symm
            simp only [decide_eq_true_eq]
            refine ⟨h1.1, h1.2, h2.1, h2.2, by omega, fun x hx => ?_, fun i hi => ok2 i hi hi⟩
            obtain ⟨j, hj, rfl⟩ := List.getElem_of_mem hx
            exact ok1 j hj hj)
          (fun i hi ih ok1 ok2 => by
            refine Ter.succ ?_
            simp only [spec_l8Arena.l0, in_is, Option.bind_some]
            refine Ter.ifp (by omega) (Ter.ifp (by omega) ?_)
            rw [rd_at hi]
            by_cases h4 : 0 ≤ l[i] ∧ l[i] ≤ u
            · refine Ter.ifp (by simpa using h4) ?_
              have ok1' : ∀ j, j < i + 1 → ∀ hj : j < l.length, 0 ≤ l[j] ∧ l[j] ≤ u := fun j hj hj2 => by
                by_cases hji : j = i
                · subst hji; exact h4
                · exact ok1 j (by omega) hj2
              by_cases h5 : (i : Int) > 0
              · rw [w64 (n := (i : Int) - 1) (by omega) (by omega)]
                refine Ter.ifp h5 (Ter.ifp (by omega) (Ter.ifp (by omega) ?_))
                obtain ⟨p, rfl⟩ : ∃ p, i = p + 1 := ⟨i - 1, by omega⟩
                have e : ((p + 1 : Nat) : Int) - 1 = (p : Int) := by omega
                rw [e, rd_at (xs := l) (i := p) (by omega)]
                by_cases h6 : l[p] > l[p + 1]
                · refine Ter.ifp h6 ((Ter.ret _).eq ?_)
                  symm
                  simp only [decide_eq_false_iff_not]
                  intro h7
                  have := h7.2.2.2.2.2.2 p hi
                  rw [getD_get hi, getD_get (by omega)] at this
                  omega
                · refine Ter.ifn h6 ?_
                  rw [w64s hi (by omega)]
                  refine ih ok1' (fun j hj hj2 => ?_)
                  by_cases hjp : j = p
                  · subst hjp; rw [getD_get hj2, getD_get (by omega)]; omega
                  · exact ok2 j (by omega) hj2
              · refine Ter.ifn h5 ?_
                rw [w64s hi (by omega)]
                exact ih ok1' (fun j hj hj2 => by omega)
            · refine Ter.ifn (by simpa using h4) ((Ter.ret _).eq ?_)
              symm
              simp only [decide_eq_false_iff_not]
              intro h7
              exact h4 (h7.2.2.2.2.2.1 _ (List.getElem_mem hi))) 0 (by omega)
        exact key (fun j hj => by omega) (fun j hj => by omega)
    · refine Ter.ifn (by simpa using h2) (Ter.succ ?_)
      simp only [spec_l8Arena.j0, if_true]
      refine (Ter.ret _).eq ?_
      symm
      simp only [decide_eq_false_iff_not]
      exact fun h3 => h2 ⟨h3.2.2.1, h3.2.2.2.1⟩
  · refine Ter.ifn (by simpa using h1) (Ter.succ ?_)
    simp only [spec_l8Arena.j0, if_true]
    refine (Ter.ret _).eq ?_
    symm
    simp only [decide_eq_false_iff_not]
    exact fun h3 => h1 ⟨h3.1, h3.2.1⟩

theorem less_is (a b : Int) : cmp_Less_int.f a b = some (decide (a < b)) := by simp [cmp_Less_int.f, cmp_isNaN_int.f]

theorem allWithin_is {l : List Int} {a b : Int} (hl : l.length ≤ maxLen) : Ter (fun k => impl_allWithin.f k l a b) (decide (∀ x ∈ l, a ≤ x ∧ x ≤ b)) := by
  rw [maxLen_] at hl
  unfold impl_allWithin.f
  have key := down_ (Q := fun i => (∀ j, j < i → ∀ hj : j < l.length, a ≤ l[j] ∧ l[j] ≤ b) → Ter (fun k => impl_allWithin.l0 k a b l (l.length : Int) (i : Int)) (decide (∀ x ∈ l, a ≤ x ∧ x ≤ b))) l.length
    (fun ok => by
      refine Ter.succ ?_
      simp only [impl_allWithin.l0]
      refine Ter.ifn (by omega) ((Ter.ret _).eq ?_)
      symm
      simp only [decide_eq_true_eq]
      intro x hx
      obtain ⟨j, hj, rfl⟩ := List.getElem_of_mem hx
      exact ok j hj hj)
    (fun i hi ih ok => by
      refine Ter.succ ?_
      simp only [impl_allWithin.l0, within_is, Option.bind_some]
      refine Ter.ifp (by omega) (Ter.ifp (by omega) (Ter.ifp (by omega) ?_))
      rw [rd_at hi]
      by_cases h4 : a ≤ l[i] ∧ l[i] ≤ b
      · refine Ter.ifp (by simpa using h4) ?_
        rw [w64s hi (by omega)]
        exact ih (fun j hj hj2 => by
          by_cases hji : j = i
          · subst hji; exact h4
          · exact ok j (by omega) hj2)
      · refine Ter.ifn (by simpa using h4) ((Ter.ret _).eq ?_)
        symm
        simp only [decide_eq_false_iff_not]
        exact fun h => h4 (h _ (List.getElem_mem hi))) 0 (by omega)
  exact key (fun j hj => by omega)

theorem isSorted_is {l : List Int} (hl : l.length ≤ maxLen) : Ter (fun k => slices_IsSorted_int_int.f k l) (decide (Rising l)) := by
  rw [maxLen_] at hl
  unfold slices_IsSorted_int_int.f
  rw [w64 (by omega) (by omega)]
  have key : ∀ (i : Nat), i < l.length → (∀ j, i ≤ j → j + 1 < l.length → l.getD j 0 ≤ l.getD (j + 1) 0) → Ter (fun k => slices_IsSorted_int_int.l0 k l (i : Int)) (decide (Rising l)) := by
    intro i
    induction i with
    | zero =>
      intro h ok
      refine Ter.succ ?_
      simp only [slices_IsSorted_int_int.l0]
      refine Ter.ifn (by omega) ((Ter.ret _).eq ?_)
      symm
      simp only [decide_eq_true_eq]
      exact fun j hj => ok j (by omega) hj
    | succ p ih =>
      intro h ok
      refine Ter.succ ?_
      simp only [slices_IsSorted_int_int.l0, less_is, Option.bind_some]
      have e : ((p + 1 : Nat) : Int) - 1 = (p : Int) := by omega
      rw [w64 (by omega) (by omega), e]
      refine Ter.ifp (by omega) (Ter.ifp (by omega) (Ter.ifp (by omega) (Ter.ifp (by omega) (Ter.ifp (by omega) ?_))))
      rw [rdn, rdn]
      by_cases h6 : l.getD (p + 1) 0 < l.getD p 0
      · refine Ter.ifp (by simpa using h6) ((Ter.ret _).eq ?_)
        symm
        simp only [decide_eq_false_iff_not]
        intro h7
        have := h7 p h
        omega
      · refine Ter.ifn (by simpa using h6) ?_
        refine ih (by omega) (fun j hj hj2 => ?_)
        by_cases hjp : j = p
        · subst hjp; omega
        · exact ok j (by omega) hj2
  rcases Nat.eq_zero_or_pos l.length with h0 | h0
  · refine Ter.succ ?_
    simp only [slices_IsSorted_int_int.l0]
    refine Ter.ifn (by omega) ((Ter.ret _).eq ?_)
    symm
    simp only [decide_eq_true_eq]
    exact fun j hj => by omega
  · have e : (l.length : Int) - 1 = ((l.length - 1 : Nat) : Int) := by omega
    rw [e]
    exact key _ (by omega) (fun j hj hj2 => by omega)

theorem isArena_is {m : List (List Int)} {a s n c u : Int} {l : List Int} (h : m.length ≤ maxLen) (hl : l.length ≤ maxLen) (hw : wfW ⟨a, s, n, c⟩) : Ter (fun k => impl_IsArena.f k m a s n c u l) (decide (IsArena m a s n c u l)) := by
  have hl' := hl
  rw [maxLen_] at hl'
  unfold impl_IsArena.f
  refine (areOn_is h (fun w hw1 => by simp only [List.mem_singleton] at hw1; subst hw1; exact hw)).bind ?_
  by_cases h1 : AreOn m [⟨a, s, n, c⟩]
  · refine Ter.ifp (by simpa using h1) ?_
    have h1' : IsMem m ∧ OnMem m a s n c := ⟨h1.1, h1.2 _ (List.mem_singleton.2 rfl)⟩
    simp only [within_is, Option.bind_some]
    by_cases h2 : 0 ≤ u ∧ u ≤ n
    · refine Ter.ifp (by simpa using h2) (Ter.succ ?_)
      simp only [impl_IsArena.j0]
      by_cases h3 : (l.length : Int) > 8
      · refine Ter.ifp (by simpa using h3) ((Ter.ret _).eq ?_)
        symm
        simp only [decide_eq_false_iff_not]
        intro h4
        have := h4.2.2.2.2.1
        omega
      · refine Ter.ifn (by simpa using h3) ((allWithin_is hl).bind ?_)
        by_cases h4 : ∀ x ∈ l, 0 ≤ x ∧ x ≤ u
        · refine Ter.ifp (by simpa using h4) ((isSorted_is hl).bind ((Ter.ret _).eq ?_))
          simp only [decide_eq_decide]
          constructor
          · intro h5; exact ⟨h1'.1, h1'.2, h2.1, h2.2, by omega, h4, h5⟩
          · intro h5; exact h5.2.2.2.2.2.2
        · refine Ter.ifn (by simpa using h4) ((Ter.ret _).eq ?_)
          symm
          simp only [decide_eq_false_iff_not]
          exact fun h5 => h4 h5.2.2.2.2.2.1
    · refine Ter.ifn (by simpa using h2) (Ter.succ ?_)
      simp only [impl_IsArena.j0, if_true]
      refine (Ter.ret _).eq ?_
      symm
      simp only [decide_eq_false_iff_not]
      exact fun h3 => h2 ⟨h3.2.2.1, h3.2.2.2.1⟩
  · refine Ter.ifn (by simpa using h1) (Ter.succ ?_)
    simp only [impl_IsArena.j0, if_true]
    refine (Ter.ret _).eq ?_
    symm
    simp only [decide_eq_false_iff_not]
    exact fun h3 => h1 ⟨h3.1, fun w hw1 => by simp only [List.mem_singleton] at hw1; subst hw1; exact h3.2.1⟩

theorem l1Own_is {l : List Int} (h : Small l) : spec_l1Own.f l = some l := by
  have := h.le
  simp only [spec_l1Own.f, Option.bind_some, List.nil_append, List.length_nil]
  rw [if_pos (by omega)]

theorem l8Own_is {m : List (List Int)} {a s n c u v : Int} {l : List Int} (h : IsMem m) (hl : Small l) : Ter (fun k => spec_l8Own.f k m a s n c u l v) (m, a, s, n, c, v, l) := by
  unfold spec_l8Own.f
  exact (l2Own_is h).bind (Ter.bind (F := fun _ => spec_l1Own.f l) (Ter.const (l1Own_is hl)) (Ter.ret _))

theorem arenaOwn_is {m : List (List Int)} {a s n c u : Int} {l : List Int} (h : IsMem m) (hl : Small l) : Ter (fun k => impl_Arena_own.f k m a s n c u l) (m, a, s, n, c, u, l) := by
  unfold impl_Arena_own.f
  have := hl.le
  exact (memOwn_is h).bind (Ter.bind (F := fun _ => slices_Clone_int.f l) (a := l) (Ter.const (by unfold slices_Clone_int.f; rw [if_pos (by omega)])) (Ter.ret _))

/-- Bytes written into a window of an own memory. -/
theorem l2Write_is {m : List (List Int)} {ai : Nat} {s n c t : Int} {ys : List Int} (h : IsMem m) (hi : ai < m.length) (h0 : 0 ≤ s) (h1 : 0 ≤ t) (hs : s + t + ys.length ≤ m[ai].length) : Ter (fun k => spec_l2Write.f k m ai s n c t ys) (m.set ai (over_ m[ai] (s + t).toNat ys)) := by
  have hl := h.at hi
  unfold spec_l2Write.f
  refine (l2Own_is h).bind ?_
  have key := down_ (Q := fun i => Ter (fun k => spec_l2Write.l0 k t ys (i : Int) ai s n c (m.set ai (over_ m[ai] (s + t).toNat (ys.take i)))) (m.set ai (over_ m[ai] (s + t).toNat ys))) ys.length
    (Ter.succ (by simp only [spec_l2Write.l0]; exact Ter.ifn (by omega) ((Ter.ret _).eq (by rw [List.take_length]))))
    (fun i hi2 ih => by
      refine Ter.succ ?_
      simp only [spec_l2Write.l0]
      have hlen : (over_ m[ai] (s + t).toNat (ys.take i)).length = m[ai].length := over_length (by simp; omega)
      have e : rd_L1 (m.set ai (over_ m[ai] (s + t).toNat (ys.take i))) (ai : Int) = over_ m[ai] (s + t).toNat (ys.take i) := by
        rw [show rd_L1 (m.set ai (over_ m[ai] (s + t).toNat (ys.take i))) (ai : Int) = (m.set ai (over_ m[ai] (s + t).toNat (ys.take i)))[ai]'(by simpa using hi) from getD_at (by simpa using hi)]
        simp
      rw [e, hlen, rd_at hi2, w64 (n := s + t) (by omega) (by omega), w64 (n := s + t + i) (by omega) (by omega), w64s hi2 (by omega)]
      refine Ter.ifp (by omega) (Ter.ifp (by omega) (Ter.ifp (by simp; omega) (Ter.ifp (by omega) (Ter.ifp (by omega) (Ter.ifp (by omega) ?_)))))
      rw [Int.toNat_natCast, List.set_set]
      have e2 : (over_ m[ai] (s + t).toNat (ys.take i)).set (s + t + i).toNat ys[i] = over_ m[ai] (s + t).toNat (ys.take (i + 1)) := by
        apply List.ext_getElem?
        intro j
        by_cases hj : j = (s + t + i).toNat
        · subst hj
          rw [List.getElem?_set_self (by omega), over_get (by simp; omega), if_pos (by simp; omega), List.getElem?_take_of_lt (by omega), show (s + t + i).toNat - (s + t).toNat = i by omega, List.getElem?_eq_getElem hi2]
        · rw [List.getElem?_set_ne (by omega), over_get (by simp; omega), over_get (by simp; omega)]
          simp only [List.length_take]
          by_cases h5 : (s + t).toNat ≤ j ∧ j < (s + t).toNat + min i ys.length
          · rw [if_pos h5, if_pos (by omega), List.getElem?_take_of_lt (by omega), List.getElem?_take_of_lt (by omega)]
          · rw [if_neg h5, if_neg (by omega)]
      rw [e2]
      exact ih) 0 (by omega)
  rw [List.take_zero, over_nil, List.set_getElem_self] at key
  exact key
end Go.Proofs.Ytmkcbbbknbahgaa.P
namespace Go.Proofs.Ytmkcbbbknbahgaa.P
open Go.RowKit Go.Proofs.YtmkcbbbknbahgaaW.PrintWords Go.Proofs.YtmkcbbbknbahgaaW.PrintLast Go.Proofs.YtmkcbbbknbahgaaW.PrintMore
set_option linter.unusedVariables false

/-- What is asked is valid. -/
def OkAsk (q : S74) : Prop := 0 ≤ q.f0 ∧ 1 ≤ q.f1 ∧ q.f1 ≤ 16

theorem askedOk_is (q : S74) : askedOk q = true ↔ OkAsk q := by
  unfold askedOk OkAsk
  simp only [Bool.and_eq_true, decide_eq_true_eq]

/-- The beginning, without wraps. -/
def begN (u al : Int) : Int := (u + al - 1) / al * al

theorem begN_le {u al : Int} (h0 : 0 ≤ u) (h1 : 1 ≤ al) : u ≤ begN u al ∧ begN u al ≤ u + al - 1 := by
  unfold begN
  have h2 := Int.ediv_mul_add_emod (u + al - 1) al
  have h3 := Int.emod_nonneg (u + al - 1) (show al ≠ 0 by omega)
  have h4 := Int.emod_lt_of_pos (u + al - 1) (show 0 < al by omega)
  omega

theorem beginF_is {u al : Int} (h0 : 0 ≤ u) (h1 : u ≤ 64) (h2 : 1 ≤ al) (h3 : al ≤ 16) : beginF u al = begN u al := by
  have h4 := begN_le h0 h2
  unfold beginF
  rw [w64 (n := u + al) (by omega) (by omega), w64 (n := u + al - 1) (by omega) (by omega), Int.tdiv_eq_ediv_of_nonneg (by omega)]
  have h5 : 0 ≤ (u + al - 1) / al := Int.ediv_nonneg (by omega) (by omega)
  have h6 : (u + al - 1) / al ≤ u + al - 1 := Int.ediv_le_self _ (by omega)
  rw [w64 (n := (u + al - 1) / al) (by omega) (by omega)]
  exact w64 (by unfold begN at h4; omega) (by unfold begN at h4; omega)

theorem areAsked_is {m : List (List Int)} {a s n c u : Int} {l : List Int} {ask : List S74} (h : m.length ≤ maxLen) (hl : l.length ≤ maxLen) (hw : wfW ⟨a, s, n, c⟩) :
    ∃ b, Ter (fun k => impl_areAsked.f k m a s n c u l ask) b ∧ (b = true ↔ IsArena m a s n c u l ∧ ask.length ≤ 6 ∧ ∀ q ∈ ask, OkAsk q) := by
  refine ⟨_, (isArena_is h hl hw).bind (Ter.ret _), ?_⟩
  simp only [Bool.and_eq_true, decide_eq_true_eq, List.all_eq_true, askedOk_is]
  constructor
  · rintro ⟨⟨h1, h2⟩, h3⟩; exact ⟨h1, by omega, h3⟩
  · rintro ⟨h1, h2, h3⟩; exact ⟨⟨h1, by omega⟩, h3⟩
end Go.Proofs.Ytmkcbbbknbahgaa.P
namespace Go.Proofs.Ytmkcbbbknbahgaa.P
open Go.RowKit Go.Proofs.YtmkcbbbknbahgaaW.PrintWords Go.Proofs.YtmkcbbbknbahgaaW.PrintLast Go.Proofs.YtmkcbbbknbahgaaW.PrintMore
set_option linter.unusedVariables false

instance (q : S74) : Decidable (OkAsk q) := by unfold OkAsk; infer_instance

theorem l8Asked_is (q0 q1 : Int) : spec_l8Asked.f q0 q1 = some (decide (OkAsk ⟨q0, q1⟩)) := by
  unfold spec_l8Asked.f
  by_cases h0 : q0 ≥ 0
  · rw [if_pos h0, in_is]
    exact congrArg some (decide_eq_decide.2 ⟨fun h => ⟨h0, h⟩, fun h => h.2⟩)
  · rw [if_neg h0, decide_eq_false (show ¬ OkAsk ⟨q0, q1⟩ from fun h => h0 h.1)]

theorem IsArena.bounds {m : List (List Int)} {a s n c u : Int} {l : List Int} (h : IsArena m a s n c u l) : 0 ≤ s ∧ s ≤ 64 ∧ 0 ≤ n ∧ n ≤ 64 ∧ 0 ≤ u ∧ u ≤ n ∧ 0 ≤ a ∧ a < 16 := by
  obtain ⟨g1, ⟨p1, p2, p3, p4, p5, p6⟩, g3, g4, _⟩ := h
  obtain ⟨ai, rfl⟩ : ∃ ai : Nat, a = (ai : Int) := ⟨a.toNat, by omega⟩
  rw [getD_at (show ai < m.length by omega)] at p4
  have := g1.at (show ai < m.length by omega)
  have := g1.1
  omega

theorem specGive_is {m : List (List Int)} {a s n c u q0 q1 : Int} {l : List Int} (h : m.length ≤ maxLen) (hz : ∀ z ∈ m, z.length ≤ maxLen) (hl : l.length ≤ maxLen) (hs : IsMem m → Small l) :
    Ter (fun k => spec_Give.f k m a s n c u l q0 q1) (if IsArena m a s n c u l ∧ OkAsk ⟨q0, q1⟩ ∧ q0 ≤ n - begN u q1 then (m, a, s, n, c, begN u q1 + q0, l, a, s + begN u q1, q0, q0, true) else ([], 0, 0, 0, 0, 0, [], 0, 0, 0, 0, false)) := by
  unfold spec_Give.f
  refine (l8Arena_is h hz hl).bind ?_
  by_cases hA : IsArena m a s n c u l
  · refine Ter.ifp (by simpa using hA) ?_
    simp only [l8Asked_is, Option.bind_some]
    by_cases hq : OkAsk ⟨q0, q1⟩
    · refine Ter.ifp (by simpa using hq) ?_
      obtain ⟨b1, b2, b3, b4, b5, b6, b7, b8⟩ := hA.bounds
      obtain ⟨c1, c2, c3⟩ := hq
      simp only [] at c1 c2 c3
      have hb := begN_le b5 c2
      have hF : spec_l8First.f u q1 = some (begN u q1) := by
        unfold spec_l8First.f
        rw [if_neg (by omega)]
        exact congrArg some (beginF_is b5 (by omega) c2 c3)
      unfold spec_l8Fits.f
      simp only [hF, Option.bind_some]
      rw [w64 (n := n - begN u q1) (by omega) (by omega)]
      by_cases hc : q0 ≤ n - begN u q1
      · refine Ter.eq ?_ (if_pos (show IsArena m a s n c u l ∧ OkAsk ⟨q0, q1⟩ ∧ q0 ≤ n - begN u q1 from ⟨hA, ⟨c1, c2, c3⟩, hc⟩)).symm
        simp only [if_pos (show begN u q1 ≤ n by omega), Option.bind_some, decide_eq_true hc, Bool.not_true]
        refine Ter.succ ?_
        simp only [spec_Give.j0, hF, Option.bind_some]
        refine Ter.ifn (by simp) ((l8Own_is hA.1 (hs hA.1)).bind ?_)
        simp only [spec_l2Slice.f, Option.bind_some]
        rw [w64 (n := begN u q1 + q0) (by omega) (by omega), w64 (n := s + begN u q1) (by omega) (by omega), w64 (n := begN u q1 + q0 - begN u q1) (by omega) (by omega), show begN u q1 + q0 - begN u q1 = q0 by omega]
        exact Ter.ret _
      · refine Ter.eq ?_ (if_neg (show ¬ (IsArena m a s n c u l ∧ OkAsk ⟨q0, q1⟩ ∧ q0 ≤ n - begN u q1) from fun h => hc h.2.2)).symm
        by_cases h2 : begN u q1 ≤ n
        · simp only [if_pos h2, Option.bind_some, decide_eq_false hc, Bool.not_false]
          refine Ter.succ ?_
          simp only [spec_Give.j0]
          exact Ter.ifp (by first | rfl | trivial) (Ter.ret _)
        · simp only [if_neg h2, Option.bind_some, Bool.not_false]
          refine Ter.succ ?_
          simp only [spec_Give.j0]
          exact Ter.ifp (by first | rfl | trivial) (Ter.ret _)
    · rw [if_neg (fun h => hq h.2.1)]
      refine Ter.ifn (by simpa using hq) (Ter.succ ?_)
      simp only [spec_Give.j0]
      exact Ter.ifp (by first | rfl | trivial) (Ter.ret _)
  · rw [if_neg (fun h => hA h.1)]
    refine Ter.ifn (by simpa using hA) (Ter.succ ?_)
    simp only [spec_Give.j0]
    exact Ter.ifp (by first | rfl | trivial) (Ter.ret _)

/-- What GiveAll answers. -/
def givesOf (m : List (List Int)) (a s n c u : Int) (l : List Int) (ask : List S74) : List (List Int) × Int × Int × Int × Int × Int × List Int × List S32 × Bool :=
  if (giveRun a s n ask u []).2.2 = true then (m, a, s, n, c, (giveRun a s n ask u []).1, l, (giveRun a s n ask u []).2.1, true) else ([], 0, 0, 0, 0, 0, [], [], false)

theorem implGiveAll_is {m : List (List Int)} {a s n c u : Int} {l : List Int} {ask : List S74} (h : m.length ≤ maxLen) (hl : l.length ≤ maxLen) (hs : Small l) (hw : wfW ⟨a, s, n, c⟩) (hk : ask.length ≤ 1048576) :
    Ter (fun k => impl_GiveAll.f k m a s n c u l ask) (if IsArena m a s n c u l ∧ ask.length ≤ 6 ∧ ∀ q ∈ ask, OkAsk q then givesOf m a s n c u l ask else ([], 0, 0, 0, 0, 0, [], [], false)) := by
  unfold impl_GiveAll.f
  obtain ⟨b, hb, hb'⟩ := areAsked_is (u := u) (ask := ask) h hl hw
  refine hb.bind ?_
  cases b with
  | false =>
    rw [if_neg (fun h => by have := hb'.2 h; cases this)]
    exact Ter.ifn (by simp) (Ter.ret _)
  | true =>
    obtain ⟨hA, h6, hq⟩ := hb'.1 rfl
    rw [if_pos ⟨hA, h6, hq⟩]
    refine Ter.ifp rfl ((arenaOwn_is hA.1 hs).bind (Ter.ifp ⟨fun q hx => by have := (hq q hx).2.1; omega, hk⟩ ?_))
    unfold givesOf
    by_cases hok : (giveRun a s n ask u []).2.2 = true
    · exact (Ter.ifp hok (Ter.ret _)).eq (if_pos hok).symm
    · exact (Ter.ifn hok (Ter.ret _)).eq (if_neg hok).symm
end Go.Proofs.Ytmkcbbbknbahgaa.P
namespace Go.Proofs.Ytmkcbbbknbahgaa.P
open Go.RowKit Go.Proofs.YtmkcbbbknbahgaaW.PrintWords Go.Proofs.YtmkcbbbknbahgaaW.PrintLast Go.Proofs.YtmkcbbbknbahgaaW.PrintMore
set_option linter.unusedVariables false

theorem toAsked_is (q0 q1 : Int) : laws_toAsked.f q0 q1 = some (q0, q1) := by simp [laws_toAsked.f]

theorem implGive_is {m : List (List Int)} {a s n c u q0 q1 : Int} {l : List Int} (h : m.length ≤ maxLen) (hl : l.length ≤ maxLen) (hs : Small l) (hw : wfW ⟨a, s, n, c⟩) :
    Ter (fun k => impl_Give.f k m a s n c u l q0 q1) (if IsArena m a s n c u l ∧ OkAsk ⟨q0, q1⟩ ∧ q0 ≤ n - begN u q1 then (m, a, s, n, c, begN u q1 + q0, l, a, s + begN u q1, q0, q0, true) else ([], 0, 0, 0, 0, 0, [], 0, 0, 0, 0, false)) := by
  unfold impl_Give.f
  have hG := implGiveAll_is (u := u) (ask := [(⟨q0, q1⟩ : S74)]) h hl hs hw (by simp)
  by_cases hA : IsArena m a s n c u l ∧ OkAsk ⟨q0, q1⟩
  · rw [if_pos (show IsArena m a s n c u l ∧ [(⟨q0, q1⟩ : S74)].length ≤ 6 ∧ ∀ q ∈ [(⟨q0, q1⟩ : S74)], OkAsk q from ⟨hA.1, by simp, by intro q hq; rw [List.mem_singleton.1 hq]; exact hA.2⟩)] at hG
    obtain ⟨b1, b2, b3, b4, b5, b6, b7, b8⟩ := hA.1.bounds
    have hqi : 0 ≤ q0 ∧ 1 ≤ q1 ∧ q1 ≤ 16 := hA.2
    have hbn := begN_le b5 hqi.2.1
    have hbF := beginF_is b5 (by omega) hqi.2.1 hqi.2.2
    unfold givesOf giveRun giveRun at hG
    simp only [hbF] at hG
    rw [w64 (n := n - begN u q1) (by omega) (by omega)] at hG
    by_cases hc : q0 > n - begN u q1
    · simp only [if_pos hc, Bool.false_eq_true, if_false] at hG
      rw [if_neg (fun hh => by have := hh.2.2; omega)]
      exact hG.bind (Ter.ifn (by simp) (Ter.ret _))
    · simp only [if_neg hc, if_true] at hG
      rw [w64 (n := begN u q1 + q0) (by omega) (by omega), w64 (n := s + begN u q1) (by omega) (by omega)] at hG
      rw [if_pos ⟨hA.1, hA.2, by omega⟩]
      exact hG.bind (Ter.ifp rfl (Ter.ifp (by simp) (Ter.ret _)))
  · rw [if_neg (fun hh => hA ⟨hh.1, hh.2.2 _ (by simp)⟩)] at hG
    rw [if_neg (fun hh => hA ⟨hh.1, hh.2.1⟩)]
    exact hG.bind (Ter.ifn (by simp) (Ter.ret _))
end Go.Proofs.Ytmkcbbbknbahgaa.P
namespace Go.Proofs.Ytmkcbbbknbahgaa.P
open Go.RowKit Go.Proofs.YtmkcbbbknbahgaaW.PrintWords Go.Proofs.YtmkcbbbknbahgaaW.PrintLast Go.Proofs.YtmkcbbbknbahgaaW.PrintMore
set_option linter.unusedVariables false

/-- What GiveZero answers. -/
def zeroed (m : List (List Int)) (a s n c u q0 q1 : Int) (l : List Int) : List (List Int) × Int × Int × Int × Int × Int × List Int × Int × Int × Int × Int × Bool :=
  if IsArena m a s n c u l ∧ OkAsk ⟨q0, q1⟩ ∧ q0 ≤ n - begN u q1 then (m.set a.toNat (over_ (m.getD a.toNat []) (s + begN u q1).toNat (List.replicate q0.toNat 0)), a, s, n, c, begN u q1 + q0, l, a, s + begN u q1, q0, q0, true) else ([], 0, 0, 0, 0, 0, [], 0, 0, 0, 0, false)

theorem given_in {m : List (List Int)} {a s n c u q0 q1 : Int} {l : List Int} (h : IsArena m a s n c u l ∧ OkAsk ⟨q0, q1⟩ ∧ q0 ≤ n - begN u q1) : ∃ ai : Nat, a = ai ∧ ∃ hi : ai < m.length, 0 ≤ s + begN u q1 ∧ 0 ≤ q0 ∧ q0 ≤ 64 ∧ s + begN u q1 + q0 ≤ (m[ai].length : Int) ∧ 1 ≤ m[ai].length ∧ m[ai].length ≤ 64 := by
  obtain ⟨hA, hq, hc⟩ := h
  obtain ⟨b1, b2, b3, b4, b5, b6, b7, b8⟩ := hA.bounds
  obtain ⟨g1, ⟨p1, p2, p3, p4, p5, p6⟩, g3, g4, _⟩ := hA
  obtain ⟨ai, rfl⟩ : ∃ ai : Nat, a = (ai : Int) := ⟨a.toNat, by omega⟩
  have hi : ai < m.length := by omega
  rw [getD_at hi] at p4
  have hz := g1.at hi
  have hqi : 0 ≤ q0 ∧ 1 ≤ q1 ∧ q1 ≤ 16 := hq
  have hbn := begN_le b5 hqi.2.1
  exact ⟨ai, rfl, hi, by omega, by omega, by omega, by omega, hz.1, hz.2⟩

theorem specGiveZero_is {m : List (List Int)} {a s n c u q0 q1 : Int} {l : List Int} (h : m.length ≤ maxLen) (hz : ∀ z ∈ m, z.length ≤ maxLen) (hl : l.length ≤ maxLen) (hs : IsMem m → Small l) :
    Ter (fun k => spec_GiveZero.f k m a s n c u l q0 q1) (zeroed m a s n c u q0 q1 l) := by
  unfold spec_GiveZero.f
  have hG := specGive_is (a := a) (s := s) (n := n) (c := c) (u := u) (q0 := q0) (q1 := q1) h hz hl hs
  unfold zeroed
  by_cases hA : IsArena m a s n c u l ∧ OkAsk ⟨q0, q1⟩ ∧ q0 ≤ n - begN u q1
  · rw [if_pos hA] at hG ⊢
    obtain ⟨ai, rfl, hi, h1, h2, h2', h3, h4, h5⟩ := given_in hA
    rw [getD_at hi]
    have hW := l2Write_is (s := s + begN u q1) (n := q0) (c := q0) (t := 0) (ys := List.replicate q0.toNat 0) hA.1.1 hi h1 (Int.le_refl _) (by rw [List.length_replicate]; omega)
    rw [Int.add_zero] at hW
    refine hG.bind (Ter.ifp rfl (Ter.ifp h2 (Ter.ifp (by show q0.toNat ≤ 281474976710656; omega) (hW.bind ?_))))
    exact (Ter.ret _).eq (by rw [Int.toNat_natCast])
  · rw [if_neg hA] at hG ⊢
    exact hG.bind (Ter.ifn (by simp) (Ter.ret _))

theorem implGiveZero_is {m : List (List Int)} {a s n c u q0 q1 : Int} {l : List Int} (h : m.length ≤ maxLen) (hl : l.length ≤ maxLen) (hs : Small l) (hw : wfW ⟨a, s, n, c⟩) :
    Ter (fun k => impl_GiveZero.f k m a s n c u l q0 q1) (zeroed m a s n c u q0 q1 l) := by
  unfold impl_GiveZero.f
  have hG := implGive_is (a := a) (s := s) (n := n) (c := c) (u := u) (q0 := q0) (q1 := q1) h hl hs hw
  unfold zeroed
  by_cases hA : IsArena m a s n c u l ∧ OkAsk ⟨q0, q1⟩ ∧ q0 ≤ n - begN u q1
  · rw [if_pos hA] at hG ⊢
    obtain ⟨ai, rfl, hi, h1, h2, h2', h3, h4, h5⟩ := given_in hA
    refine hG.bind (Ter.ifp rfl (Ter.ifp ?_ ((Ter.ret _).eq rfl)))
    show rowZ m (ai : Int) (s + begN u q1) q0
    unfold rowZ
    rw [getD_at hi]
    omega
  · rw [if_neg hA] at hG ⊢
    exact hG.bind (Ter.ifn (by simp) (Ter.ret _))

theorem FnExactGiveZero.pure : FnExactGiveZero.Pure := by
  intro m a s n c u l q0 q1 ⟨hm1, hm2⟩ ha hs hn hc hu ⟨hl1, hl2⟩ hq0 hq1
  have hm2' : ∀ z ∈ m, z.length ≤ maxLen := fun z hz => (hm2 z hz).1
  obtain ⟨r, hr, h⟩ := szArena_is (a := a) (s := s) (n := n) (c := c) (u := u) ⟨hm1, hm2'⟩ hl1 (t := 1048576) (by omega) (by omega)
  rcases h with h | ⟨h, h', hs1, hs2, hs3⟩
  · obtain ⟨K, hK⟩ := hr
    exact .inr ⟨K, r, hK K (Nat.le_refl _), h⟩
  · have hw : wfW ⟨a, s, n, c⟩ := ⟨wf64_of ha, wf64_of hs, wf64_of hn, wf64_of hc⟩
    have hto := toArena_is (a := a) (s := s) (n := n) (c := c) (u := u) hs1 hs2 hs3
    have spec := specGiveZero_is (a := a) (s := s) (n := n) (c := c) (u := u) (q0 := q0) (q1 := q1) hm1 hm2' hl1 (fun _ => hs3)
    have impl := implGiveZero_is (a := a) (s := s) (n := n) (c := c) (u := u) (q0 := q0) (q1 := q1) hm1 hl1 hs3 hw
    obtain ⟨m1, a1, s1, n1, c1, u1, l2, x0, x1, x2, x3, b1, e, hm1', hmz, hl1'⟩ : ∃ m1 a1 s1 n1 c1 u1 l2 x0 x1 x2 x3 b1, zeroed m a s n c u q0 q1 l = (m1, a1, s1, n1, c1, u1, l2, x0, x1, x2, x3, b1) ∧ Small m1 ∧ (∀ z ∈ m1, Small z) ∧ Small l2 := by
      unfold zeroed
      split
      · rename_i hA
        obtain ⟨ai, rfl, hi, h1, h2, h2', h3, h4, h5⟩ := given_in hA
        refine ⟨_, _, _, _, _, _, _, _, _, _, _, _, rfl, ?_, fun z hz => ?_, hs3⟩
        · show (m.set _ _).length ≤ 1048576
          rw [List.length_set]
          exact hs1
        · rcases List.mem_or_eq_of_mem_set hz with hz | rfl
          · exact hs2 z hz
          · show (over_ _ _ _).length ≤ 1048576
            rw [getD_at hi, over_length (by rw [List.length_replicate]; omega)]
            omega
      · exact ⟨_, _, _, _, _, _, _, _, _, _, _, _, rfl, by simp [Small], fun z hz => (List.not_mem_nil hz).elim, by simp [Small]⟩
    rw [e] at spec impl
    have eq1 := eqArena_is (a := a1) (s := s1) (n := n1) (c := c1) (u := u1) hm1' hmz hl1'
    have eq3 := eqArena_is (a := a) (s := s) (n := n) (c := c) (u := u) hs1 hs2 hs3
    obtain ⟨x2', y2, r3, _, _, hr3, hr3', hk2, _⟩ := markArena_is (a := a) (s := s) (n := n) (c := c) (u := u) (b := 1) hs1 hs2 hs3 (by omega) (by omega)
    obtain ⟨x4, y4, r4, _, _, hr4, hr4', hk4, hh4⟩ := markArena_is (a := a1) (s := s1) (n := n1) (c := c1) (u := u1) (b := 1) hm1' hmz hl1' (by omega) (by omega)
    obtain ⟨K0, hr⟩ := hr; obtain ⟨K1, hto⟩ := hto; obtain ⟨K3, spec⟩ := spec; obtain ⟨K4, impl⟩ := impl; obtain ⟨K5, eq1⟩ := eq1; obtain ⟨K7, eq3⟩ := eq3
    obtain ⟨K9, hk2⟩ := hk2; obtain ⟨K11, hk4⟩ := hk4; obtain ⟨K13, hh4⟩ := hh4
    exact .inl ⟨K0 + K1 + K3 + K4 + K5 + K7 + K9 + K11 + K13, r, m, a, s, n, c, u, l, q0, q1, m1, a1, s1, n1, c1, u1, l2, x0, x1, x2, x3, b1, r3, x2', y2, r4, x4, y4, hr _ (by omega), by omega, hto _ (by omega), toAsked_is _ _, spec _ (by omega), impl _ (by omega), eq1 _ (by omega), eqWindow_is _ _ _ _, eq3 _ (by omega), hk2 _ (by omega), hr3, hk4 _ (by omega), hh4 _ (by omega), hr4⟩
end Go.Proofs.Ytmkcbbbknbahgaa.P
namespace Go.Proofs.Ytmkcbbbknbahgaa.fnExactGiveZero
open Go.ChangeShapes Go.WideShapes Go.ChangeAt Go.RowKit
open Go.ChangeMaps (open_string shut_string)
open Go.Proofs.Ytmkcbbbknbahgaa.P Go.Proofs.YtmkcbbbknbahgaaW.PrintWords Go.Proofs.YtmkcbbbknbahgaaW.PrintLast Go.Proofs.YtmkcbbbknbahgaaW.PrintMore
set_option linter.unusedVariables false

theorem own : ownKnob Try.prog.godebug = none := by kernel_rfl

theorem laidOut : laidOutB Try.prog = true := by kernel_rfl

set_option maxRecDepth 100000 in
set_option maxHeartbeats 2000000 in
theorem lifted (os : Os) (started : os.Started) (H : Type) (enc : TypeId × Value → H) :
    ReturnsInHanded {} Try.checked os 7 .any (Rows.fnExactGiveZeroSpec.pre6 enc Try.prog Try.f7 Rows.fnExactGiveZeroRow.domain false) (Rows.fnExactGiveZeroSpec.post enc Try.prog Try.f7 false true false false) := by
  refine returnsInHanded_of_change_sized (C := Try.checked) own started (by kernel_rfl) Try.func7
    (ChangeSpec.witness6 (enc := enc) (C := Try.checked) false ⟨#[], #[.agg #[.slice none 0 0, .int .i64 0, .int .i64 0, .int .i64 0, .int .i64 0, .int .i64 0, .slice none 0 0], .agg #[.int .i64 0, .int .i64 0]], []⟩ 8 (by kernel_rfl) (by kernel_rfl) (by kernel_rfl) (by kernel_rfl)) ?_
  intro W base args ds gs before hval0 hW hcnd hsz0 _
  have hsz : (DataW.weightsEach Try.prog (Try.f7.params.toList ++ Rows.fnExactGiveZeroSpec.plain.varTypes Try.prog) (ds ++ gs)).all (· ≤ reachBytes) = true := hsz0
  have hval : ∀ (j : Nat) t v, Try.f7.params[j]? = some t → args[j]? = some v → Value.okWide Try.prog W .any base t v := hval0
  have hW' := hW
  obtain ⟨p, q, hA0, hV, rfl, hfz, hnd⟩ := hW
  have hA : DataW.TrodAll enc Try.prog W 0 (fun _ => true) true Try.f7.params.toList args.toList ds p := hA0
  rw [Try.params7] at hA hval hsz
  obtain ⟨v0, vs0, d0, ds0, p0, q0, hargs, rfl, rfl, h0, r0⟩ := trodAll_cons hA
  obtain ⟨v1, vs1, d1, ds1, p1, q1, rfl, rfl, rfl, h1, r1⟩ := trodAll_cons r0
  obtain ⟨rfl, rfl, rfl⟩ := trodAll_nil r1
  obtain rfl : args = #[v0, v1] := by cases args; simp_all
  obtain ⟨rfl, rfl⟩ := trodVars_none hV
  obtain ⟨cs0, rfl, _⟩ := okWide_struct Try.underlying65 (hval 0 65 v0 rfl rfl)
  have k0 := h0
  have lt0 : ∀ x ∈ p0, x.block < W.heap.size := by obtain ⟨m, hm⟩ := k0; exact DataW.trod_lt m _ _ _ hm
  obtain ⟨A0_0, c0_0, l0_0, a0_1, a0_2, a0_3, a0_4, a0_5, A0_6, c0_6, l0_6, e0, HR0_0, HC0_0, W0_0, W0_1, W0_2, W0_3, W0_4, W0_5, HR0_6, HC0_6, W0_6, _⟩ : ∃ (A0_0 : Option Addr) (c0_0 : Nat) (l0_0 : List (List Int)) (a0_1 : Int) (a0_2 : Int) (a0_3 : Int) (a0_4 : Int) (a0_5 : Int) (A0_6 : Option Addr) (c0_6 : Nat) (l0_6 : List Int), cs0 = #[.slice A0_0 l0_0.length c0_0, .int .i64 a0_1, .int .i64 a0_2, .int .i64 a0_3, .int .i64 a0_4, .int .i64 a0_5, .slice A0_6 l0_6.length c0_6] ∧ Kd.C (Kd.slice 5 (Kd.int .u8)) W A0_0 l0_0.length l0_0 ∧ l0_0.length ≤ c0_0 ∧ (l0_0.length ≤ maxLen ∧ ∀ z ∈ l0_0, (z.length ≤ maxLen ∧ ∀ z2 ∈ z, (Lit.int .u8 z2).wf = true)) ∧ (Lit.int .i64 a0_1).wf = true ∧ (Lit.int .i64 a0_2).wf = true ∧ (Lit.int .i64 a0_3).wf = true ∧ (Lit.int .i64 a0_4).wf = true ∧ (Lit.int .i64 a0_5).wf = true ∧ Kd.C (Kd.int .i64) W A0_6 l0_6.length l0_6 ∧ l0_6.length ≤ c0_6 ∧ (l0_6.length ≤ maxLen ∧ ∀ z ∈ l0_6, (Lit.int .i64 z).wf = true) ∧ True := by
    obtain ⟨fuel, hf⟩ := h0
    obtain ⟨A0_0, c0_0, l0_0, a0_1, a0_2, a0_3, a0_4, a0_5, A0_6, c0_6, l0_6, e_, r_⟩ := P.cells_65 hf
    refine ⟨A0_0, c0_0, l0_0, a0_1, a0_2, a0_3, a0_4, a0_5, A0_6, c0_6, l0_6, ?_, r_⟩
    exact Array.toList_inj.1 e_
  subst e0
  obtain ⟨cs1, rfl, _⟩ := okWide_struct Try.underlying67 (hval 1 67 v1 rfl rfl)
  have k1 := h1
  have lt1 : ∀ x ∈ p1, x.block < W.heap.size := by obtain ⟨m, hm⟩ := k1; exact DataW.trod_lt m _ _ _ hm
  obtain ⟨a1_0, a1_1, e1, W1_0, W1_1, _⟩ : ∃ (a1_0 : Int) (a1_1 : Int), cs1 = #[.int .i64 a1_0, .int .i64 a1_1] ∧ (Lit.int .i64 a1_0).wf = true ∧ (Lit.int .i64 a1_1).wf = true ∧ True := by
    obtain ⟨fuel, hf⟩ := h1
    obtain ⟨a1_0, a1_1, e_, r_⟩ := P.cells_67 hf
    refine ⟨a1_0, a1_1, ?_, r_⟩
    exact Array.toList_inj.1 e_
  subst e1
  clear hA0 hval0 hsz0 hsz
  refine (P.FnExactGiveZero.call P.FnExactGiveZero.pure A0_0 c0_0 l0_0 a0_1 a0_2 a0_3 a0_4 a0_5 A0_6 c0_6 l0_6 a1_0 a1_1 W HR0_0 HC0_0 HR0_6 HC0_6 W0_0 W0_1 W0_2 W0_3 W0_4 W0_5 W0_6 W1_0 W1_1).mono fun e W' ⟨he, bel⟩ => ?_
  subst he
  exact ⟨_, rfl, _, _, _, [], _, [], hW', trodAll_mk1 (shut_bool Try.underlying4 _), (trodAll_cons_mk (Below.trod laidOut (by kernel_rfl) (of_decide_eq_true (by kernel_rfl)) k0 bel lt0) (trodAll_cons_mk (Below.trod laidOut (by kernel_rfl) (of_decide_eq_true (by kernel_rfl)) k1 bel lt1) trodAll_mk0)), rfl, bel.frame _, fun h => by cases h⟩

theorem cl1 : Try.pinned.checked.prog.funcNamed Rows.fnExactGiveZeroRow.func = some 7 := by kernel_rfl

theorem cl2 : joinedFacts Try.pinned.checked.prog 7 Try.f7 Rows.fnExactGiveZeroSpec Rows.fnExactGiveZeroRow = true := by kernel_rfl

theorem cl3 : Try.f7.isInstance Try.pinned.checked.prog Rows.fnExactGiveZeroRow.origin Rows.fnExactGiveZeroRow.targs := of_decide_eq_true (by kernel_rfl)

theorem cl4 : Try.f7.isWrapper Try.pinned.checked.prog Rows.fnExactGiveZeroRow.wrapper Rows.fnExactGiveZeroRow.mainSum := (by unfold Func.isWrapper; first | (rw [if_pos (by decide +kernel)]; kernel_rfl) | (rw [if_neg (by decide +kernel)]; exact ⟨rfl, rfl⟩))

theorem over : Rows.fnExactGiveZeroRow.holds Try.pinned (OpenSpec.ofChange Rows.fnExactGiveZeroSpec) :=
  OpenClaim.holds_of_wide 7 Try.f7 rfl rfl rfl rfl rfl rfl rfl ⟨rfl, rfl, rfl, rfl, rfl⟩ rfl rfl rfl rfl rfl cl1 Try.func7 cl2 cl3 cl4
    (fun os started H enc _ => lifted os started H enc)

theorem proved : Rows.FnExactGiveZeroSaid := over
#print axioms proved
end Go.Proofs.Ytmkcbbbknbahgaa.fnExactGiveZero
namespace Go.Proofs.Ytmkcbbbknbahgaa

/-- The row, under a short name, for the claim. -/
theorem fnExactGiveZero_holds : Rows.FnExactGiveZeroSaid := fnExactGiveZero.proved
end Go.Proofs.Ytmkcbbbknbahgaa
