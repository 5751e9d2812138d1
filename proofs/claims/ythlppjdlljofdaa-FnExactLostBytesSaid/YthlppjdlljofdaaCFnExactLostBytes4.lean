/- Part 4 of the proof of FnExactLostBytes: the row, and what it rests on. -/
import Derived.Test.YthlppjdlljofdaaCFnExactLostBytes3
import Derived.Test.YthlppjdlljofdaaRows
import Derived.WalkKit
import Derived.ProofKit
import Derived.OpenShut
import Derived.ShutString
import Derived.ChangeOld
import Derived.Below
import Derived.SizedLaws
namespace Go.Proofs.Ythlppjdlljofdaa.P
open Go.RowKit Go.Proofs.YthlppjdlljofdaaW.PrintWords Go.Proofs.YthlppjdlljofdaaW.PrintLast Go.Proofs.YthlppjdlljofdaaW.PrintMore
set_option linter.unusedVariables false

theorem in_is (a b c : Int) : spec_l1In.f a b c = some (decide (b ≤ a ∧ a ≤ c)) := by
  unfold spec_l1In.f
  by_cases h : a ≥ b
  · rw [if_pos h]; congr 1; simp only [decide_eq_decide]; omega
  · rw [if_neg h]; congr 1; symm; simp only [decide_eq_false_iff_not]; omega

theorem within_is (a b c : Int) : impl_within.f a b c = some (decide (b ≤ a ∧ a ≤ c)) := by
  unfold impl_within.f
  by_cases h : a ≥ b
  · rw [if_pos h]; congr 1; simp only [decide_eq_decide]; omega
  · rw [if_neg h]; congr 1; symm; simp only [decide_eq_false_iff_not]; omega

/-- A valid memory. -/
def IsMem (m : List (List Int)) : Prop := m.length ≤ 16 ∧ ∀ z ∈ m, 1 ≤ z.length ∧ z.length ≤ 64

instance (m : List (List Int)) : Decidable (IsMem m) := by unfold IsMem; infer_instance

theorem IsMem.at {m : List (List Int)} (h : IsMem m) {i : Nat} (hi : i < m.length) : 1 ≤ m[i].length ∧ m[i].length ≤ 64 := h.2 _ (List.getElem_mem hi)

theorem l2Memory_is {m : List (List Int)} (h : m.length ≤ maxLen) : Ter (fun k => spec_l2Memory.f k m) (decide (IsMem m)) := by
  rw [maxLen_] at h
  unfold spec_l2Memory.f
  have key := down_ (Q := fun i => (∀ j, j < i → ∀ hj : j < m.length, 1 ≤ m[j].length ∧ m[j].length ≤ 64) → Ter (fun k => spec_l2Memory.l0 k (i : Int) m) (decide (IsMem m))) m.length
    (fun ok => by
      refine Ter.succ ?_
      simp only [spec_l2Memory.l0]
      refine Ter.ifn (by omega) (Ter.succ ?_)
      simp only [spec_l2Memory.j1]
      refine Ter.ifn (by simp) ((Ter.ret _).eq ?_)
      simp only [decide_eq_decide]
      constructor
      · intro h1
        refine ⟨by omega, fun z hz => ?_⟩
        obtain ⟨j, hj, rfl⟩ := List.getElem_of_mem hz
        exact ok j hj hj
      · intro h1; have := h1.1; omega)
    (fun i hi ih ok => by
      refine Ter.succ ?_
      simp only [spec_l2Memory.l0]
      refine Ter.ifp (by omega) (Ter.succ ?_)
      simp only [spec_l2Memory.j1]
      by_cases h16 : (i : Int) ≤ 16
      · refine Ter.ifp (by simpa using h16) (Ter.ifp (by omega) (Ter.ifp (by omega) ?_))
        rw [show rd_L1 m (i : Int) = m[i] from getD_at hi, in_is]
        by_cases hl : 1 ≤ (m[i].length : Int) ∧ (m[i].length : Int) ≤ 64
        · refine Ter.ifp (c := decide _ = true) (by simpa using hl) ?_
          rw [w64s hi (by omega)]
          exact ih (fun j hj hj2 => by
            by_cases hji : j = i
            · subst hji; omega
            · exact ok j (by omega) hj2)
        · refine Ter.ifn (c := decide _ = true) (by simpa using hl) ((Ter.ret _).eq ?_)
          symm
          simp only [decide_eq_false_iff_not]
          intro h1
          have := h1.at hi
          omega
      · refine Ter.ifn (by simpa using h16) ((Ter.ret _).eq ?_)
        simp only [decide_eq_decide]
        constructor
        · intro h1; omega
        · intro h1; have := h1.1; omega) 0 (by omega)
  exact key (fun j hj => by omega)

theorem isMemory_is {m : List (List Int)} (h : m.length ≤ maxLen) : Ter (fun k => impl_IsMemory.f k m) (decide (IsMem m)) := by
  rw [maxLen_] at h
  unfold impl_IsMemory.f
  have key := down_ (Q := fun i => (∀ j, j < i → ∀ hj : j < m.length, 1 ≤ m[j].length ∧ m[j].length ≤ 64) → Ter (fun k => impl_IsMemory.l0 k m (m.length : Int) (i : Int) m) (decide (IsMem m))) m.length
    (fun ok => by
      refine Ter.succ ?_
      simp only [impl_IsMemory.l0]
      refine Ter.ifn (by omega) ((Ter.ret _).eq ?_)
      simp only [decide_eq_decide]
      constructor
      · intro h1
        refine ⟨by omega, fun z hz => ?_⟩
        obtain ⟨j, hj, rfl⟩ := List.getElem_of_mem hz
        exact ok j hj hj
      · intro h1; have := h1.1; omega)
    (fun i hi ih ok => by
      refine Ter.succ ?_
      simp only [impl_IsMemory.l0]
      refine Ter.ifp (by omega) (Ter.ifp (by omega) (Ter.ifp (by omega) ?_))
      rw [show rd_L1 m (i : Int) = m[i] from getD_at hi, within_is]
      by_cases hl : 1 ≤ (m[i].length : Int) ∧ (m[i].length : Int) ≤ 64
      · refine Ter.ifp (c := decide _ = true) (by simpa using hl) ?_
        rw [w64s hi (by omega)]
        exact ih (fun j hj hj2 => by
          by_cases hji : j = i
          · subst hji; omega
          · exact ok j (by omega) hj2)
      · refine Ter.ifn (c := decide _ = true) (by simpa using hl) ((Ter.ret _).eq ?_)
        symm
        simp only [decide_eq_false_iff_not]
        intro h1
        have := h1.at hi
        omega) 0 (by omega)
  exact key (fun j hj => by omega)

/-- A window of the memory. -/
def OnMem (m : List (List Int)) (a s n c : Int) : Prop := 0 ≤ a ∧ a < m.length ∧ 0 ≤ s ∧ s + c ≤ ((m.getD a.toNat []).length : Int) ∧ 0 ≤ n ∧ n ≤ c

instance (m : List (List Int)) (a s n c : Int) : Decidable (OnMem m a s n c) := by unfold OnMem; infer_instance

theorem OnMem.c0 {m : List (List Int)} {a s n c : Int} (h : OnMem m a s n c) : 0 ≤ c := by obtain ⟨_, _, _, _, _, _⟩ := h; omega

theorem l2Window_is {m : List (List Int)} {a s n c : Int} (h : m.length ≤ maxLen) (hz : ∀ z ∈ m, z.length ≤ maxLen) : Ter (fun k => spec_l2Window.f k m a s n c) (decide (IsMem m ∧ OnMem m a s n c)) := by
  have h' := h
  rw [maxLen_] at h'
  unfold spec_l2Window.f
  refine (l2Memory_is h).bind ?_
  by_cases hm : IsMem m
  · refine Ter.ifp (by simpa using hm) ?_
    rw [in_is, w64 (by omega) (by omega)]
    refine Ter.bind (F := fun _ => some _) (Ter.ret _) (Ter.succ ?_)
    simp only [spec_l2Window.j0]
    by_cases ha : 0 ≤ a ∧ a ≤ (m.length : Int) - 1
    · refine Ter.ifn (by simp [ha]) (Ter.ifp (by omega) (Ter.ifp (by omega) ?_))
      obtain ⟨i, rfl⟩ : ∃ i : Nat, a = (i : Int) := ⟨a.toNat, by omega⟩
      have hi : i < m.length := by omega
      rw [show rd_L1 m (i : Int) = m[i] from getD_at hi]
      simp only [in_is, Option.bind_some]
      have hl := hm.at hi
      by_cases h1 : 0 ≤ s ∧ s ≤ (m[i].length : Int)
      · rw [w64 (by omega) (by omega)]
        refine Ter.ifp (by simpa using h1) ?_
        by_cases h2 : 0 ≤ c ∧ c ≤ (m[i].length : Int) - s
        · refine Ter.ifp (by simpa using h2) ((Ter.ret _).eq ?_)
          simp only [decide_eq_decide]
          unfold OnMem
          rw [getD_at hi]
          constructor
          · intro h3; exact ⟨hm, by omega⟩
          · intro h3; obtain ⟨_, h4⟩ := h3; omega
        · refine Ter.ifn (by simpa using h2) ((Ter.ret _).eq ?_)
          symm
          simp only [decide_eq_false_iff_not]
          unfold OnMem
          rw [getD_at hi]
          rintro ⟨_, h4⟩; omega
      · refine Ter.ifn (by simpa using h1) ((Ter.ret _).eq ?_)
        symm
        simp only [decide_eq_false_iff_not]
        unfold OnMem
        rw [getD_at hi]
        rintro ⟨_, h4⟩; omega
    · refine Ter.ifp (by simp only [Bool.not_eq_true', decide_eq_false_iff_not]; omega) ((Ter.ret _).eq ?_)
      symm
      simp only [decide_eq_false_iff_not]
      unfold OnMem
      rintro ⟨_, h4⟩; omega
  · refine Ter.ifn (by simpa using hm) (Ter.succ ?_)
    simp only [spec_l2Window.j0]
    simp only [if_true]
    refine (Ter.ret _).eq ?_
    symm
    simp only [decide_eq_false_iff_not]
    exact fun h1 => hm h1.1

theorem hasWindow_is {m : List (List Int)} {a s n c : Int} (hm : IsMem m) (hs : wf64 s) (hc : wf64 c) : impl_Memory_hasWindow.f m a s n c = some (decide (OnMem m a s n c)) := by
  have hml := hm.1
  unfold impl_Memory_hasWindow.f impl_Memory_hasArray.f
  simp only [within_is, Option.bind_some, decide_eq_true_eq]
  rw [w64 (n := (m.length : Int) - 1) (by omega) (by omega)]
  by_cases ha : 0 ≤ a ∧ a ≤ (m.length : Int) - 1
  · rw [if_pos ha]
    obtain ⟨i, rfl⟩ : ∃ i : Nat, a = (i : Int) := ⟨a.toNat, by omega⟩
    have hi : i < m.length := by omega
    have hl := hm.at hi
    rw [show rd_L1 m (i : Int) = m[i] from getD_at hi]
    by_cases h1 : 0 ≤ c ∧ c ≤ 64
    · rw [if_pos h1]
      by_cases h2 : 0 ≤ n ∧ n ≤ c
      · rw [if_pos h2, if_pos (by omega), if_pos (by omega), w64 (by omega) (by omega)]
        congr 1
        simp only [decide_eq_decide]
        unfold OnMem
        rw [getD_at hi]
        omega
      · rw [if_neg h2]
        congr 1
        symm
        simp only [decide_eq_false_iff_not]
        unfold OnMem
        rw [getD_at hi]
        omega
    · rw [if_neg h1]
      congr 1
      symm
      simp only [decide_eq_false_iff_not]
      unfold OnMem
      rw [getD_at hi]
      omega
  · rw [if_neg ha]
    congr 1
    symm
    simp only [decide_eq_false_iff_not]
    unfold OnMem
    omega

theorem memOwn_is {m : List (List Int)} (h : IsMem m) : Ter (fun k => impl_Memory_own.f k m) m := by
  have hml := h.1
  unfold impl_Memory_own.f
  have key := down_ (Q := fun i => Ter (fun k => impl_Memory_own.l0 k m (m.length : Int) (i : Int) (m.take i)) m) m.length
    (Ter.succ (by simp only [impl_Memory_own.l0]; exact Ter.ifn (by omega) ((Ter.ret _).eq (List.take_length))))
    (fun i hi ih => by
      refine Ter.succ ?_
      simp only [impl_Memory_own.l0]
      have hl := h.at hi
      rw [show rd_L1 m (i : Int) = m[i] from getD_at hi]
      refine Ter.ifp (by omega) (Ter.ifp (by omega) (Ter.ifp (by omega) ?_))
      refine Ter.bind (F := fun _ => slices_Clone_byte.f _) (Ter.const (by unfold slices_Clone_byte.f; rw [if_pos (by omega)])) (Ter.ifp (by simp; omega) ?_)
      rw [w64s hi (by omega), take_one hi]
      exact ih) 0 (by omega)
  simpa using key
end Go.Proofs.Ythlppjdlljofdaa.P
namespace Go.Proofs.Ythlppjdlljofdaa.P
open Go.RowKit Go.Proofs.YthlppjdlljofdaaW.PrintWords Go.Proofs.YthlppjdlljofdaaW.PrintLast Go.Proofs.YthlppjdlljofdaaW.PrintMore
set_option linter.unusedVariables false

def OnW (m : List (List Int)) (w : S32) : Prop := OnMem m w.f0 w.f1 w.f2 w.f3

instance (m : List (List Int)) (w : S32) : Decidable (OnW m w) := by unfold OnW; infer_instance

def AreOn (m : List (List Int)) (ws : List S32) : Prop := IsMem m ∧ ∀ w ∈ ws, OnW m w

instance (m : List (List Int)) (ws : List S32) : Decidable (AreOn m ws) := by unfold AreOn; infer_instance

theorem areOn_is {m : List (List Int)} {ws : List S32} (h : m.length ≤ maxLen) (hw : ∀ w ∈ ws, wfW w) : Ter (fun k => impl_areOn.f k m ws) (decide (AreOn m ws)) := by
  unfold impl_areOn.f
  refine (isMemory_is h).bind ((Ter.ret _).eq ?_)
  by_cases hm : IsMem m
  · simp only [hm, decide_true, Bool.true_and]
    rw [Bool.eq_iff_iff]
    simp only [List.all_eq_true, decide_eq_true_eq]
    constructor
    · intro h1
      refine ⟨hm, fun w hw1 => ?_⟩
      have := h1 w hw1
      unfold hasW at this
      rw [hasWindow_is hm (hw w hw1).2.1 (hw w hw1).2.2.2] at this
      simpa [OnW] using this
    · intro h1 w hw1
      unfold hasW
      rw [hasWindow_is hm (hw w hw1).2.1 (hw w hw1).2.2.2]
      simpa [OnW] using h1.2 w hw1
  · simp only [hm, decide_false, Bool.false_and]
    symm
    simp only [decide_eq_false_iff_not]
    exact fun h1 => hm h1.1
end Go.Proofs.Ythlppjdlljofdaa.P
namespace Go.Proofs.Ythlppjdlljofdaa.P
open Go.RowKit Go.Proofs.YthlppjdlljofdaaW.PrintWords Go.Proofs.YthlppjdlljofdaaW.PrintLast Go.Proofs.YthlppjdlljofdaaW.PrintMore
set_option linter.unusedVariables false

def Rising (l : List Int) : Prop := ∀ i, i + 1 < l.length → l.getD i 0 ≤ l.getD (i + 1) 0

instance (l : List Int) : Decidable (Rising l) := decidable_of_iff (∀ i, i < l.length → i + 1 < l.length → l.getD i 0 ≤ l.getD (i + 1) 0) ⟨fun h i hi => h i (by omega) hi, fun h i _ hi => h i hi⟩

def IsArena (m : List (List Int)) (a s n c u : Int) (l : List Int) : Prop := IsMem m ∧ OnMem m a s n c ∧ 0 ≤ u ∧ u ≤ n ∧ l.length ≤ 8 ∧ (∀ x ∈ l, 0 ≤ x ∧ x ≤ u) ∧ Rising l

instance (m : List (List Int)) (a s n c u : Int) (l : List Int) : Decidable (IsArena m a s n c u l) := by unfold IsArena; infer_instance

theorem rdn {l : List Int} (i : Nat) : rd l (i : Int) = l.getD i 0 := by unfold rd; rw [Int.toNat_natCast]

theorem getD_get {l : List Int} {i : Nat} (h : i < l.length) : l.getD i 0 = l[i] := by rw [List.getD_eq_getElem?_getD, List.getElem?_eq_getElem h]; rfl

theorem l8Arena_is {m : List (List Int)} {a s n c u : Int} {l : List Int} (h : m.length ≤ maxLen) (hz : ∀ z ∈ m, z.length ≤ maxLen) (hl : l.length ≤ maxLen) : Ter (fun k => spec_l8Arena.f k m a s n c u l) (decide (IsArena m a s n c u l)) := by
  rw [maxLen_] at hl
  unfold spec_l8Arena.f
  refine (l2Window_is h hz).bind ?_
  by_cases h1 : IsMem m ∧ OnMem m a s n c
  · refine Ter.ifp (by simpa using h1) ?_
    simp only [in_is, Option.bind_some]
    by_cases h2 : 0 ≤ u ∧ u ≤ n
    · refine Ter.ifp (by simpa using h2) (Ter.succ ?_)
      simp only [spec_l8Arena.j0]
      by_cases h3 : (l.length : Int) > 8
      · refine Ter.ifp (by simpa using h3) ((Ter.ret _).eq ?_)
        symm
        simp only [decide_eq_false_iff_not]
        intro h4
        have := h4.2.2.2.2.1
        omega
      · refine Ter.ifn (by simpa using h3) ?_
        have key := down_ (Q := fun i => (∀ j, j < i → ∀ hj : j < l.length, 0 ≤ l[j] ∧ l[j] ≤ u) → (∀ j, j + 1 < i → j + 1 < l.length → l.getD j 0 ≤ l.getD (j + 1) 0) → Ter (fun k => spec_l8Arena.l0 k (i : Int) m a s n c u l) (decide (IsArena m a s n c u l))) l.length
          (fun ok1 ok2 => by
            refine Ter.succ ?_
            simp only [spec_l8Arena.l0]
            refine Ter.ifn (by omega) ((Ter.ret _).eq ?_)
            symm
            simp only [decide_eq_true_eq]
            refine ⟨h1.1, h1.2, h2.1, h2.2, by omega, fun x hx => ?_, fun i hi => ok2 i hi hi⟩
            obtain ⟨j, hj, rfl⟩ := List.getElem_of_mem hx
            exact ok1 j hj hj)
          (fun i hi ih ok1 ok2 => by
            refine Ter.succ ?_
            simp only [spec_l8Arena.l0, in_is, Option.bind_some]
            refine Ter.ifp (by omega) (Ter.ifp (by omega) ?_)
            rw [rd_at hi]
            by_cases h4 : 0 ≤ l[i] ∧ l[i] ≤ u
            · refine Ter.ifp (by simpa using h4) ?_
              have ok1' : ∀ j, j < i + 1 → ∀ hj : j < l.length, 0 ≤ l[j] ∧ l[j] ≤ u := fun j hj hj2 => by
                by_cases hji : j = i
                · subst hji; exact h4
                · exact ok1 j (by omega) hj2
              by_cases h5 : (i : Int) > 0
              · rw [w64 (n := (i : Int) - 1) (by omega) (by omega)]
                refine Ter.ifp h5 (Ter.ifp (by omega) (Ter.ifp (by omega) ?_))
                obtain ⟨p, rfl⟩ : ∃ p, i = p + 1 := ⟨i - 1, by omega⟩
                have e : ((p + 1 : Nat) : Int) - 1 = (p : Int) := by omega
                rw [e, rd_at (xs := l) (i := p) (by omega)]
                by_cases h6 : l[p] > l[p + 1]
                · refine Ter.ifp h6 ((Ter.ret _).eq ?_)
                  symm
                  simp only [decide_eq_false_iff_not]
                  intro h7
                  have := h7.2.2.2.2.2.2 p hi
                  rw [getD_get hi, getD_get (by omega)] at this
                  omega
                · refine Ter.ifn h6 ?_
                  rw [w64s hi (by omega)]
                  refine ih ok1' (fun j hj hj2 => ?_)
                  by_cases hjp : j = p
                  · subst hjp; rw [getD_get hj2, getD_get (by omega)]; omega
                  · exact ok2 j (by omega) hj2
              · refine Ter.ifn h5 ?_
                rw [w64s hi (by omega)]
                exact ih ok1' (fun j hj hj2 => by omega)
            · refine Ter.ifn (by simpa using h4) ((Ter.ret _).eq ?_)
              symm
              simp only [decide_eq_false_iff_not]
              intro h7
              exact h4 (h7.2.2.2.2.2.1 _ (List.getElem_mem hi))) 0 (by omega)
        exact key (fun j hj => by omega) (fun j hj => by omega)
    · refine Ter.ifn (by simpa using h2) (Ter.succ ?_)
      simp only [spec_l8Arena.j0, if_true]
      refine (Ter.ret _).eq ?_
      symm
      simp only [decide_eq_false_iff_not]
      exact fun h3 => h2 ⟨h3.2.2.1, h3.2.2.2.1⟩
  · refine Ter.ifn (by simpa using h1) (Ter.succ ?_)
    simp only [spec_l8Arena.j0, if_true]
    refine (Ter.ret _).eq ?_
    symm
    simp only [decide_eq_false_iff_not]
    exact fun h3 => h1 ⟨h3.1, h3.2.1⟩

theorem less_is (a b : Int) : cmp_Less_int.f a b = some (decide (a < b)) := by simp [cmp_Less_int.f, cmp_isNaN_int.f]

theorem allWithin_is {l : List Int} {a b : Int} (hl : l.length ≤ maxLen) : Ter (fun k => impl_allWithin.f k l a b) (decide (∀ x ∈ l, a ≤ x ∧ x ≤ b)) := by
  rw [maxLen_] at hl
  unfold impl_allWithin.f
  have key := down_ (Q := fun i => (∀ j, j < i → ∀ hj : j < l.length, a ≤ l[j] ∧ l[j] ≤ b) → Ter (fun k => impl_allWithin.l0 k a b l (l.length : Int) (i : Int)) (decide (∀ x ∈ l, a ≤ x ∧ x ≤ b))) l.length
    (fun ok => by
      refine Ter.succ ?_
      simp only [impl_allWithin.l0]
      refine Ter.ifn (by omega) ((Ter.ret _).eq ?_)
      symm
      simp only [decide_eq_true_eq]
      intro x hx
      obtain ⟨j, hj, rfl⟩ := List.getElem_of_mem hx
      exact ok j hj hj)
    (fun i hi ih ok => by
      refine Ter.succ ?_
      simp only [impl_allWithin.l0, within_is, Option.bind_some]
      refine Ter.ifp (by omega) (Ter.ifp (by omega) (Ter.ifp (by omega) ?_))
      rw [rd_at hi]
      by_cases h4 : a ≤ l[i] ∧ l[i] ≤ b
      · refine Ter.ifp (by simpa using h4) ?_
        rw [w64s hi (by omega)]
        exact ih (fun j hj hj2 => by
          by_cases hji : j = i
          · subst hji; exact h4
          · exact ok j (by omega) hj2)
      · refine Ter.ifn (by simpa using h4) ((Ter.ret _).eq ?_)
        symm
        simp only [decide_eq_false_iff_not]
        exact fun h => h4 (h _ (List.getElem_mem hi))) 0 (by omega)
  exact key (fun j hj => by omega)

theorem isSorted_is {l : List Int} (hl : l.length ≤ maxLen) : Ter (fun k => slices_IsSorted_int_int.f k l) (decide (Rising l)) := by
  rw [maxLen_] at hl
  unfold slices_IsSorted_int_int.f
  rw [w64 (by omega) (by omega)]
  have key : ∀ (i : Nat), i < l.length → (∀ j, i ≤ j → j + 1 < l.length → l.getD j 0 ≤ l.getD (j + 1) 0) → Ter (fun k => slices_IsSorted_int_int.l0 k l (i : Int)) (decide (Rising l)) := by
    intro i
    induction i with
    | zero =>
      intro h ok
      refine Ter.succ ?_
      simp only [slices_IsSorted_int_int.l0]
      refine Ter.ifn (by omega) ((Ter.ret _).eq ?_)
      symm
      simp only [decide_eq_true_eq]
      exact fun j hj => ok j (by omega) hj
    | succ p ih =>
      intro h ok
      refine Ter.succ ?_
      simp only [slices_IsSorted_int_int.l0, less_is, Option.bind_some]
      have e : ((p + 1 : Nat) : Int) - 1 = (p : Int) := by omega
      rw [w64 (by omega) (by omega), e]
      refine Ter.ifp (by omega) (Ter.ifp (by omega) (Ter.ifp (by omega) (Ter.ifp (by omega) (Ter.ifp (by omega) ?_))))
      rw [rdn, rdn]
      by_cases h6 : l.getD (p + 1) 0 < l.getD p 0
      · refine Ter.ifp (by simpa using h6) ((Ter.ret _).eq ?_)
        symm
        simp only [decide_eq_false_iff_not]
        intro h7
        have := h7 p h
        omega
      · refine Ter.ifn (by simpa using h6) ?_
        refine ih (by omega) (fun j hj hj2 => ?_)
        by_cases hjp : j = p
        · subst hjp; omega
        · exact ok j (by omega) hj2
  rcases Nat.eq_zero_or_pos l.length with h0 | h0
  · refine Ter.succ ?_
    simp only [slices_IsSorted_int_int.l0]
    refine Ter.ifn (by omega) ((Ter.ret _).eq ?_)
    symm
    simp only [decide_eq_true_eq]
    exact fun j hj => by omega
  · have e : (l.length : Int) - 1 = ((l.length - 1 : Nat) : Int) := by omega
    rw [e]
    exact key _ (by omega) (fun j hj hj2 => by omega)

theorem isArena_is {m : List (List Int)} {a s n c u : Int} {l : List Int} (h : m.length ≤ maxLen) (hl : l.length ≤ maxLen) (hw : wfW ⟨a, s, n, c⟩) : Ter (fun k => impl_IsArena.f k m a s n c u l) (decide (IsArena m a s n c u l)) := by
  have hl' := hl
  rw [maxLen_] at hl'
  unfold impl_IsArena.f
  refine (areOn_is h (fun w hw1 => by simp only [List.mem_singleton] at hw1; subst hw1; exact hw)).bind ?_
  by_cases h1 : AreOn m [⟨a, s, n, c⟩]
  · refine Ter.ifp (by simpa using h1) ?_
    have h1' : IsMem m ∧ OnMem m a s n c := ⟨h1.1, h1.2 _ (List.mem_singleton.2 rfl)⟩
    simp only [within_is, Option.bind_some]
    by_cases h2 : 0 ≤ u ∧ u ≤ n
    · refine Ter.ifp (by simpa using h2) (Ter.succ ?_)
      simp only [impl_IsArena.j0]
      by_cases h3 : (l.length : Int) > 8
      · refine Ter.ifp (by simpa using h3) ((Ter.ret _).eq ?_)
        symm
        simp only [decide_eq_false_iff_not]
        intro h4
        have := h4.2.2.2.2.1
        omega
      · refine Ter.ifn (by simpa using h3) ((allWithin_is hl).bind ?_)
        by_cases h4 : ∀ x ∈ l, 0 ≤ x ∧ x ≤ u
        · refine Ter.ifp (by simpa using h4) ((isSorted_is hl).bind ((Ter.ret _).eq ?_))
          simp only [decide_eq_decide]
          constructor
          · intro h5; exact ⟨h1'.1, h1'.2, h2.1, h2.2, by omega, h4, h5⟩
          · intro h5; exact h5.2.2.2.2.2.2
        · refine Ter.ifn (by simpa using h4) ((Ter.ret _).eq ?_)
          symm
          simp only [decide_eq_false_iff_not]
          exact fun h5 => h4 h5.2.2.2.2.2.1
    · refine Ter.ifn (by simpa using h2) (Ter.succ ?_)
      simp only [impl_IsArena.j0, if_true]
      refine (Ter.ret _).eq ?_
      symm
      simp only [decide_eq_false_iff_not]
      exact fun h3 => h2 ⟨h3.2.2.1, h3.2.2.2.1⟩
  · refine Ter.ifn (by simpa using h1) (Ter.succ ?_)
    simp only [impl_IsArena.j0, if_true]
    refine (Ter.ret _).eq ?_
    symm
    simp only [decide_eq_false_iff_not]
    exact fun h3 => h1 ⟨h3.1, fun w hw1 => by simp only [List.mem_singleton] at hw1; subst hw1; exact h3.2.1⟩

theorem arenaOwn_is {m : List (List Int)} {a s n c u : Int} {l : List Int} (h : IsMem m) (hl : Small l) : Ter (fun k => impl_Arena_own.f k m a s n c u l) (m, a, s, n, c, u, l) := by
  unfold impl_Arena_own.f
  have := hl.le
  exact (memOwn_is h).bind (Ter.bind (F := fun _ => slices_Clone_int.f l) (a := l) (Ter.const (by unfold slices_Clone_int.f; rw [if_pos (by omega)])) (Ter.ret _))
end Go.Proofs.Ythlppjdlljofdaa.P
namespace Go.Proofs.Ythlppjdlljofdaa.P
open Go.RowKit Go.Proofs.YthlppjdlljofdaaW.PrintWords Go.Proofs.YthlppjdlljofdaaW.PrintLast Go.Proofs.YthlppjdlljofdaaW.PrintMore
set_option linter.unusedVariables false

/-- What is asked is valid. -/
def OkAsk (q : S128) : Prop := 0 ≤ q.f0 ∧ 1 ≤ q.f1 ∧ q.f1 ≤ 16

theorem askedOk_is (q : S128) : askedOk q = true ↔ OkAsk q := by
  unfold askedOk OkAsk
  simp only [Bool.and_eq_true, decide_eq_true_eq]

/-- The beginning, without wraps. -/
def begN (u al : Int) : Int := (u + al - 1) / al * al

theorem begN_le {u al : Int} (h0 : 0 ≤ u) (h1 : 1 ≤ al) : u ≤ begN u al ∧ begN u al ≤ u + al - 1 := by
  unfold begN
  have h2 := Int.ediv_mul_add_emod (u + al - 1) al
  have h3 := Int.emod_nonneg (u + al - 1) (show al ≠ 0 by omega)
  have h4 := Int.emod_lt_of_pos (u + al - 1) (show 0 < al by omega)
  omega

theorem beginF_is {u al : Int} (h0 : 0 ≤ u) (h1 : u ≤ 64) (h2 : 1 ≤ al) (h3 : al ≤ 16) : beginF u al = begN u al := by
  have h4 := begN_le h0 h2
  unfold beginF
  rw [w64 (n := u + al) (by omega) (by omega), w64 (n := u + al - 1) (by omega) (by omega), Int.tdiv_eq_ediv_of_nonneg (by omega)]
  have h5 : 0 ≤ (u + al - 1) / al := Int.ediv_nonneg (by omega) (by omega)
  have h6 : (u + al - 1) / al ≤ u + al - 1 := Int.ediv_le_self _ (by omega)
  rw [w64 (n := (u + al - 1) / al) (by omega) (by omega)]
  exact w64 (by unfold begN at h4; omega) (by unfold begN at h4; omega)

theorem giveRun_is (a1 a2 n : Int) (hn : n ≤ 64) : ∀ (l : List S128) (u : Int) (out : List S32), 0 ≤ u → u ≤ n → (∀ q ∈ l, OkAsk q) → (giveRun a1 a2 n l u out).2.2 = true →
    0 ≤ (giveRun a1 a2 n l u out).1 ∧ (giveRun a1 a2 n l u out).1 ≤ n ∧ (giveRun a1 a2 n l u out).2.1.map (·.f2) = out.map (·.f2) ++ l.map (·.f0) ∧ ∀ q ∈ l, q.f0 ≤ 64
  | [], u, out, h0, h1, _, _ => ⟨h0, h1, by simp [giveRun], fun q hq => by cases hq⟩
  | q :: qs, u, out, h0, h1, hq, hok => by
    obtain ⟨g1, g2, g3⟩ := hq q (List.mem_cons_self ..)
    have hb := begN_le h0 g2
    unfold giveRun at hok ⊢
    rw [beginF_is h0 (by omega) g2 g3, w64 (n := n - begN u q.f1) (by omega) (by omega)] at hok ⊢
    by_cases hc : q.f0 > n - begN u q.f1
    · rw [if_pos hc] at hok
      cases hok
    · rw [if_neg hc] at hok ⊢
      rw [w64 (n := begN u q.f1 + q.f0) (by omega) (by omega)] at hok ⊢
      obtain ⟨r1, r2, r3, r4⟩ := giveRun_is a1 a2 n hn qs (begN u q.f1 + q.f0) _ (by omega) (by omega) (fun x hx => hq x (List.mem_cons_of_mem _ hx)) hok
      refine ⟨r1, r2, by rw [r3]; simp, fun x hx => ?_⟩
      rcases List.mem_cons.1 hx with rfl | hx
      · omega
      · exact r4 x hx

theorem l8Count_is {n : Nat} (hn : n ≤ 1048576) : Ter (fun k => spec_l8Count.f k (n : Int)) ((List.range n).map fun (i : Nat) => (i : Int)) := by
  unfold spec_l8Count.f
  have key := down_ (Q := fun i => Ter (fun k => spec_l8Count.l0 k (n : Int) ((List.range i).map fun (i : Nat) => (i : Int)) (i : Int)) ((List.range n).map fun (i : Nat) => (i : Int))) n
    (Ter.succ (by simp only [spec_l8Count.l0]; exact Ter.ifn (by omega) (Ter.ret _)))
    (fun i hi ih => by
      refine Ter.succ ?_
      simp only [spec_l8Count.l0]
      refine Ter.ifp (by omega) (Ter.ifp (by simp; omega) ?_)
      rw [w64s hi (by omega)]
      rw [List.range_succ, List.map_append] at ih
      exact ih) 0 (by omega)
  simpa using key

theorem l8Used_is {m : List (List Int)} {a s n c u : Int} {l : List Int} {ask : List S128} (hn : n ≤ 64) (h0 : 0 ≤ u) (h1 : u ≤ n) (hl : ask.length ≤ 1048576) (hq : ∀ q ∈ ask, OkAsk q) :
    Ter (fun k => spec_l8Used.f k m a s n c u l ask ((List.range ask.length).map fun (i : Nat) => (i : Int))) (if (giveRun a s n ask u []).2.2 = true then (giveRun a s n ask u []).1 else -1) := by
  unfold spec_l8Used.f
  have key := down_ (Q := fun i => ∀ (v : Int) (out : List S32), 0 ≤ v → v ≤ n → Ter (fun k => spec_l8Used.l0 k ask ((List.range ask.length).map fun (i : Nat) => (i : Int)) v (i : Int) m a s n c u l) (if (giveRun a s n (ask.drop i) v out).2.2 = true then (giveRun a s n (ask.drop i) v out).1 else -1)) ask.length
    (fun v out hv0 hv1 => Ter.succ (by simp only [spec_l8Used.l0]; refine Ter.ifn (by simp) ((Ter.ret _).eq ?_); rw [List.drop_length]; rfl))
    (fun i hi ih v out hv0 hv1 => by
      refine Ter.succ ?_
      simp only [spec_l8Used.l0]
      have e : rd ((List.range ask.length).map fun (i : Nat) => (i : Int)) (i : Int) = (i : Int) := by rw [rd_at (by simpa using hi)]; simp
      rw [e, show rd_T128 ask (i : Int) = ask[i] from getD_at hi]
      obtain ⟨g1, g2, g3⟩ := hq _ (List.getElem_mem hi)
      have hb := begN_le hv0 g2
      have hF : spec_l8First.f v (ask[i]).f1 = some (begN v (ask[i]).f1) := by
        unfold spec_l8First.f
        rw [if_neg (by omega)]
        exact congrArg some (beginF_is hv0 (by omega) g2 g3)
      rw [List.drop_eq_getElem_cons hi]
      unfold giveRun
      rw [beginF_is hv0 (by omega) g2 g3, w64 (n := n - begN v (ask[i]).f1) (by omega) (by omega)]
      refine Ter.ifp (by simp; omega) (Ter.ifp (by omega) (Ter.ifp (by omega) (Ter.ifp (by omega) ?_)))
      unfold spec_l8Fits.f
      simp only [hF, Option.bind_some]
      by_cases hc : (ask[i]).f0 > n - begN v (ask[i]).f1
      · rw [if_pos hc]
        by_cases hc2 : begN v (ask[i]).f1 ≤ n
        · simp only [if_pos hc2, Option.bind_some]
          rw [w64 (n := n - begN v (ask[i]).f1) (by omega) (by omega)]
          exact Ter.ifn (by simp only [decide_eq_true_eq]; omega) (Ter.ret _)
        · simp only [if_neg hc2, Option.bind_some]
          exact Ter.ifn (by simp) (Ter.ret _)
      · rw [if_neg hc]
        simp only [if_pos (show begN v (ask[i]).f1 ≤ n by omega), Option.bind_some]
        rw [w64 (n := n - begN v (ask[i]).f1) (by omega) (by omega)]
        refine Ter.ifp (by simp only [decide_eq_true_eq]; omega) ?_
        rw [w64s hi (by omega), w64 (n := begN v (ask[i]).f1 + (ask[i]).f0) (by omega) (by omega)]
        exact ih _ _ (by omega) (by omega)) 0 (by omega) u [] h0 h1
  simpa using key
end Go.Proofs.Ythlppjdlljofdaa.P
namespace Go.Proofs.Ythlppjdlljofdaa.P
open Go.RowKit Go.Proofs.YthlppjdlljofdaaW.PrintWords Go.Proofs.YthlppjdlljofdaaW.PrintLast Go.Proofs.YthlppjdlljofdaaW.PrintMore
set_option linter.unusedVariables false

theorem l8List_is {m : List (List Int)} {a s n c u : Int} {l : List Int} {ask : List S128} (h : m.length ≤ maxLen) (hz : ∀ z ∈ m, z.length ≤ maxLen) (hl : l.length ≤ maxLen) (hk : ask.length ≤ 1048576) :
    ∃ b, Ter (fun k => spec_l8List.f k m a s n c u l ask) b ∧ (b = true ↔ IsArena m a s n c u l ∧ ask.length ≤ 6 ∧ ∀ q ∈ ask, OkAsk q) := by
  unfold spec_l8List.f
  have hA : ∀ q : S128, spec_l8Asked.f q.f0 q.f1 = some (askedOk q) := fun q => by
    unfold spec_l8Asked.f askedOk
    by_cases h0 : q.f0 ≥ 0
    · rw [if_pos h0, in_is]
      simp only [Option.bind_some, decide_eq_true (show 0 ≤ q.f0 from h0), Bool.true_and, ← Bool.decide_and]
    · rw [if_neg h0, decide_eq_false (show ¬ 0 ≤ q.f0 from h0)]
      rfl
  have key := down_ (Q := fun i => (∀ j, j < i → ∀ hj : j < ask.length, OkAsk ask[j]) → ∃ b, Ter (fun k => spec_l8List.l0 k ask (i : Int) m a s n c u l) b ∧ (b = true ↔ IsArena m a s n c u l ∧ ask.length ≤ 6 ∧ ∀ q ∈ ask, OkAsk q)) ask.length
    (fun ok => by
      by_cases hg : IsArena m a s n c u l
      · refine ⟨decide ((ask.length : Int) ≤ 6), Ter.succ ?_, ?_⟩
        · simp only [spec_l8List.l0]
          exact Ter.ifn (by omega) ((l8Arena_is h hz hl).bind (Ter.ifp (by simpa using hg) (Ter.ret _)))
        · simp only [decide_eq_true_eq]
          constructor
          · intro h1
            refine ⟨hg, by omega, fun q hq => ?_⟩
            obtain ⟨j, hj, rfl⟩ := List.getElem_of_mem hq
            exact ok j hj hj
          · intro h1; omega
      · refine ⟨false, Ter.succ ?_, ?_⟩
        · simp only [spec_l8List.l0]
          exact Ter.ifn (by omega) ((l8Arena_is h hz hl).bind (Ter.ifn (by simpa using hg) (Ter.ret _)))
        · exact ⟨fun h1 => (by cases h1), fun h1 => absurd h1.1 hg⟩)
    (fun i hi ih ok => by
      by_cases hq : OkAsk ask[i]
      · obtain ⟨b, hb, hb2⟩ := ih (fun j hj hj2 => by
          by_cases hji : j = i
          · subst hji; exact hq
          · exact ok j (by omega) hj2)
        refine ⟨b, Ter.succ ?_, hb2⟩
        simp only [spec_l8List.l0]
        rw [show rd_T128 ask (i : Int) = ask[i] from getD_at hi, hA, w64s hi (by omega)]
        exact Ter.ifp (by omega) (Ter.ifp (by omega) (Ter.ifp (c := askedOk ask[i] = true) ((askedOk_is _).2 hq) hb))
      · refine ⟨false, Ter.succ ?_, ⟨fun h1 => (by cases h1), fun h1 => absurd (h1.2.2 _ (List.getElem_mem hi)) hq⟩⟩
        simp only [spec_l8List.l0]
        rw [show rd_T128 ask (i : Int) = ask[i] from getD_at hi, hA]
        exact Ter.ifp (by omega) (Ter.ifp (by omega) (Ter.ifn (c := askedOk ask[i] = true) (fun h1 => hq ((askedOk_is _).1 h1)) (Ter.ret _)))) 0 (by omega)
  exact key (fun j hj => by omega)

theorem areAsked_is {m : List (List Int)} {a s n c u : Int} {l : List Int} {ask : List S128} (h : m.length ≤ maxLen) (hl : l.length ≤ maxLen) (hw : wfW ⟨a, s, n, c⟩) :
    ∃ b, Ter (fun k => impl_areAsked.f k m a s n c u l ask) b ∧ (b = true ↔ IsArena m a s n c u l ∧ ask.length ≤ 6 ∧ ∀ q ∈ ask, OkAsk q) := by
  refine ⟨_, (isArena_is h hl hw).bind (Ter.ret _), ?_⟩
  simp only [Bool.and_eq_true, decide_eq_true_eq, List.all_eq_true, askedOk_is]
  constructor
  · rintro ⟨⟨h1, h2⟩, h3⟩; exact ⟨h1, by omega, h3⟩
  · rintro ⟨h1, h2, h3⟩; exact ⟨⟨h1, by omega⟩, h3⟩

def askOf (x : S125) : S128 := ⟨x.f0, x.f1⟩

theorem szAskedS_is {l : List S125} {a : Int} (h0 : 0 ≤ a) (h1 : a ≤ 1048576) (hl : l.length ≤ maxLen) : ∃ r, laws_szAskedS.f l a = some r ∧ (r < 0 ∨ (0 ≤ r ∧ r ≤ a ∧ Small l)) := by
  rw [maxLen_] at hl
  unfold laws_szAskedS.f Small
  rw [w64 (by omega) (by omega)]
  by_cases h : a - (l.length : Int) < 0
  · rw [if_pos h]; exact ⟨_, rfl, .inl (by omega)⟩
  · rw [if_neg h]; exact ⟨_, rfl, .inr (by omega)⟩

theorem toAskedS_is {l : List S125} (h : Small l) : Ter (fun k => laws_toAskedS.f k l) (l.map askOf) := by
  have hl := h.le
  unfold laws_toAskedS.f
  refine Ter.ifp (by omega) (Ter.ifp (by omega) ?_)
  have hm : (l.map askOf).length = l.length := by simp
  have key := down_ (Q := fun i => Ter (fun k => laws_toAskedS.l0 k l ((l.map askOf).take i ++ List.replicate ((l.map askOf).length - i) z128) (i : Int)) (l.map askOf)) (l.map askOf).length
    (Ter.succ (by simp only [laws_toAskedS.l0]; exact Ter.ifn (by omega) ((Ter.ret _).eq fill_all)))
    (fun i hi ih => by
      refine Ter.succ ?_
      simp only [laws_toAskedS.l0]
      have hi' : i < l.length := by omega
      refine Ter.ifp (by omega) (Ter.ifp (by omega) ?_)
      rw [show rd_T125 l (i : Int) = l[i] from getD_at hi']
      refine Ter.bind (F := fun _ => laws_toAsked.f _ _) (Ter.ret _) (Ter.ifp (by rw [fill_len (by omega)]; omega) ?_)
      rw [w64s hi (by omega)]
      have e := fill_set (z := z128) hi
      rw [show (l.map askOf)[i] = askOf l[i] by simp] at e
      show Ter (fun k => laws_toAskedS.l0 k l (List.set _ _ (askOf l[i])) _) _
      rw [e]
      exact ih) 0 (by omega)
  simpa using key

theorem eqAskedS_is {l : List S128} (h : l.length ≤ maxLen) : Ter (fun k => laws_eqAskedS.f k l l) true := by
  rw [maxLen_] at h
  unfold laws_eqAskedS.f
  refine Ter.ifp rfl ?_
  exact down_ (Q := fun i => Ter (fun k => laws_eqAskedS.l0 k l l (i : Int)) true) l.length
    (Ter.succ (by simp only [laws_eqAskedS.l0]; exact Ter.ifn (by omega) (Ter.ret _)))
    (fun i hi ih => by
      refine Ter.succ ?_
      simp only [laws_eqAskedS.l0]
      refine Ter.ifp (by omega) (Ter.ifp (by omega) (Ter.ifp (by omega) ?_))
      refine Ter.bind (F := fun _ => laws_eqAsked.f _ _ _ _) (a := true) (Ter.const (by simp [laws_eqAsked.f])) (Ter.ifp rfl ?_)
      rw [w64s hi (by omega)]
      exact ih) 0 (by omega)

/-- Numbers taken off one behind the other. -/
theorem offSpec {ask : List S128} (hl : ask.length ≤ 6) (hq : ∀ q ∈ ask, 0 ≤ q.f0 ∧ q.f0 ≤ 64) {v : Int} (h0 : -64 ≤ v) (h1 : v ≤ 64) : Ter (fun k => spec_LostBytes.l0 k ask v 0) ((ask.map (·.f0)).foldl (· - ·) v, true) := by
  have key := down_ (Q := fun i => ∀ x : Int, -(64 * i) - 64 ≤ x → x ≤ 64 → Ter (fun k => spec_LostBytes.l0 k ask x (i : Int)) (((ask.drop i).map (·.f0)).foldl (· - ·) x, true)) ask.length
    (fun x _ _ => Ter.succ (by simp only [spec_LostBytes.l0]; exact Ter.ifn (by omega) ((Ter.ret _).eq (by simp))))
    (fun i hi ih x hx0 hx1 => by
      refine Ter.succ ?_
      simp only [spec_LostBytes.l0]
      have := hq _ (List.getElem_mem hi)
      rw [show rd_T128 ask (i : Int) = ask[i] from getD_at hi, w64s hi (by omega), w64 (n := x - (ask[i]).f0) (by omega) (by omega), List.drop_eq_getElem_cons hi]
      exact Ter.ifp (by omega) (Ter.ifp (by omega) (ih _ (by omega) (by omega)))) 0 (by omega) v (by omega) h1
  simpa using key

theorem offImpl {ws : List S32} (hl : ws.length ≤ 6) (hq : ∀ q ∈ ws, 0 ≤ q.f2 ∧ q.f2 ≤ 64) {v : Int} (h0 : -64 ≤ v) (h1 : v ≤ 64) : Ter (fun k => impl_LostBytes.l0 k v ws (ws.length : Int) 0) ((ws.map (·.f2)).foldl (· - ·) v, true) := by
  have key := down_ (Q := fun i => ∀ x : Int, -(64 * i) - 64 ≤ x → x ≤ 64 → Ter (fun k => impl_LostBytes.l0 k x ws (ws.length : Int) (i : Int)) (((ws.drop i).map (·.f2)).foldl (· - ·) x, true)) ws.length
    (fun x _ _ => Ter.succ (by simp only [impl_LostBytes.l0]; exact Ter.ifn (by omega) ((Ter.ret _).eq (by simp))))
    (fun i hi ih x hx0 hx1 => by
      refine Ter.succ ?_
      simp only [impl_LostBytes.l0]
      have := hq _ (List.getElem_mem hi)
      rw [show rd_T32 ws (i : Int) = ws[i] from getD_at hi, w64s hi (by omega), w64 (n := x - (ws[i]).f2) (by omega) (by omega), List.drop_eq_getElem_cons hi]
      exact Ter.ifp (by omega) (Ter.ifp (by omega) (Ter.ifp (by omega) (ih _ (by omega) (by omega))))) 0 (by omega) v (by omega) h1
  simpa using key

theorem FnExactLostBytes.pure : FnExactLostBytes.Pure := by
  intro m a s n c u l l1 ⟨hm1, hm2⟩ ha hs hn hc hu ⟨hl1, hl2⟩ ⟨hk1, hk2⟩
  have hm2' : ∀ z ∈ m, z.length ≤ maxLen := fun z hz => (hm2 z hz).1
  obtain ⟨r, hr, h⟩ := szArena_is (a := a) (s := s) (n := n) (c := c) (u := u) ⟨hm1, hm2'⟩ hl1 (t := 1048576) (by omega) (by omega)
  rcases h with h | ⟨h, h', hs1, hs2, hs3⟩
  · obtain ⟨K, hK⟩ := hr
    exact .inr (.inl ⟨K, r, hK K (Nat.le_refl _), h⟩)
  obtain ⟨r2, hr2, h2⟩ := szAskedS_is h h' hk1
  rcases h2 with h2 | ⟨h2, _, hs4⟩
  · obtain ⟨K, hK⟩ := hr
    exact .inr (.inr ⟨K, r, r2, hK K (Nat.le_refl _), by omega, hr2, h2⟩)
  · have hw : wfW ⟨a, s, n, c⟩ := ⟨wf64_of ha, wf64_of hs, wf64_of hn, wf64_of hc⟩
    have hto := toArena_is (a := a) (s := s) (n := n) (c := c) (u := u) hs1 hs2 hs3
    have hto2 := toAskedS_is hs4
    have hsm : (l1.map askOf).length ≤ 1048576 := by simpa using hs4.le
    generalize l1.map askOf = ask at hto2 hsm
    obtain ⟨b1, hb1, hb1'⟩ := l8List_is (a := a) (s := s) (n := n) (c := c) (u := u) hm1 hm2' hl1 hsm
    obtain ⟨b2, hb2, hb2'⟩ := areAsked_is (u := u) (ask := ask) hm1 hl1 hw
    have eb : b1 = b2 := by
      rw [Bool.eq_iff_iff, hb1', hb2']
    subst eb
    obtain ⟨v, b, spec, impl⟩ : ∃ v b, Ter (fun k => spec_LostBytes.f k m a s n c u l ask) (v, b) ∧ Ter (fun k => impl_LostBytes.f k m a s n c u l ask) (v, b) := by
      cases b1 with
      | false =>
        refine ⟨0, false, ?_, ?_⟩
        · unfold spec_LostBytes.f
          exact hb1.bind (Ter.ifn (by simp) (Ter.ret _))
        · unfold impl_LostBytes.f impl_GiveAll.f
          exact (hb2.bind (Ter.ifn (by simp) (Ter.ret _))).bind (Ter.ifn (by simp) (Ter.ret _))
      | true =>
        obtain ⟨⟨g1, g2, g3, g4, g5, g6, g7⟩, q1, q2⟩ := hb1'.1 rfl
        have hn64 : n ≤ 64 := by
          obtain ⟨p1, p2, p3, p4, p5, p6⟩ := g2
          obtain ⟨ai, rfl⟩ : ∃ ai : Nat, a = (ai : Int) := ⟨a.toNat, by omega⟩
          rw [getD_at (show ai < m.length by omega)] at p4
          have := g1.at (show ai < m.length by omega)
          omega
        have us := l8Used_is (m := m) (a := a) (s := s) (c := c) (l := l) hn64 g3 g4 hsm q2
        have hne : ∀ q ∈ ask, q.f1 ≠ 0 := fun q hq => by have := (q2 q hq).2.1; omega
        by_cases hok : (giveRun a s n ask u []).2.2 = true
        · obtain ⟨t1, t2, t3, t4⟩ := giveRun_is a s n hn64 ask u [] g3 g4 q2 hok
          rw [if_pos hok] at us
          simp only [List.map_nil, List.nil_append] at t3
          refine ⟨(ask.map (·.f0)).foldl (· - ·) ((giveRun a s n ask u []).1 - u), true, ?_, ?_⟩
          · unfold spec_LostBytes.f
            refine hb1.bind (Ter.ifp rfl ((l8Count_is hsm).bind (us.bind (Ter.ifn (by omega) ?_))))
            rw [w64 (by omega) (by omega)]
            exact offSpec q1 (fun q hq => ⟨(q2 q hq).1, t4 q hq⟩) (by omega) (by omega)
          · unfold impl_LostBytes.f impl_GiveAll.f
            refine (hb2.bind (Ter.ifp rfl ((arenaOwn_is g1 hs3).bind (Ter.ifp ⟨hne, hsm⟩ (Ter.ifp hok (Ter.ret _)))))).bind (Ter.ifp rfl ?_)
            simp only []
            rw [w64 (by omega) (by omega), ← t3]
            have tl : (giveRun a s n ask u []).2.1.length = ask.length := by have := congrArg List.length t3; simpa using this
            refine offImpl (by omega) (fun q hq => ?_) (by omega) (by omega)
            have hm : q.f2 ∈ ask.map (·.f0) := by rw [← t3]; exact List.mem_map.2 ⟨q, hq, rfl⟩
            obtain ⟨x, hx, hxe⟩ := List.mem_map.1 hm
            rw [← hxe]
            exact ⟨(q2 x hx).1, t4 x hx⟩
        · rw [if_neg hok] at us
          refine ⟨0, false, ?_, ?_⟩
          · unfold spec_LostBytes.f
            exact hb1.bind (Ter.ifp rfl ((l8Count_is hsm).bind (us.bind (Ter.ifp (by omega) (Ter.ret _)))))
          · unfold impl_LostBytes.f impl_GiveAll.f
            exact (hb2.bind (Ter.ifp rfl ((arenaOwn_is g1 hs3).bind (Ter.ifp ⟨hne, hsm⟩ (Ter.ifn hok (Ter.ret _)))))).bind (Ter.ifn (by simp) (Ter.ret _))
    have eq2 := eqArena_is (a := a) (s := s) (n := n) (c := c) (u := u) hs1 hs2 hs3
    have eq3 := eqAskedS_is (l := ask) (by rw [maxLen_]; omega)
    obtain ⟨K0, hr⟩ := hr; obtain ⟨K1, hto⟩ := hto; obtain ⟨K2, hto2⟩ := hto2; obtain ⟨K3, spec⟩ := spec; obtain ⟨K4, impl⟩ := impl; obtain ⟨K5, eq2⟩ := eq2; obtain ⟨K6, eq3⟩ := eq3
    exact .inl ⟨K0 + K1 + K2 + K3 + K4 + K5 + K6, r, r2, m, a, s, n, c, u, l, ask, v, b, hr _ (by omega), by omega, hr2, by omega, hto _ (by omega), hto2 _ (by omega), spec _ (by omega), impl _ (by omega), eq2 _ (by omega), eq3 _ (by omega)⟩
end Go.Proofs.Ythlppjdlljofdaa.P
namespace Go.Proofs.Ythlppjdlljofdaa.fnExactLostBytes
open Go.ChangeShapes Go.WideShapes Go.ChangeAt Go.RowKit
open Go.ChangeMaps (open_string shut_string)
open Go.Proofs.Ythlppjdlljofdaa.P Go.Proofs.YthlppjdlljofdaaW.PrintWords Go.Proofs.YthlppjdlljofdaaW.PrintLast Go.Proofs.YthlppjdlljofdaaW.PrintMore
set_option linter.unusedVariables false

theorem own : ownKnob Try.prog.godebug = none := by kernel_rfl

theorem laidOut : laidOutB Try.prog = true := by kernel_rfl

set_option maxRecDepth 100000 in
set_option maxHeartbeats 2000000 in
theorem lifted (os : Os) (started : os.Started) (H : Type) (enc : TypeId × Value → H) :
    ReturnsInHanded {} Try.checked os 7 .any (Rows.fnExactLostBytesSpec.pre6 enc Try.prog Try.f7 Rows.fnExactLostBytesRow.domain false) (Rows.fnExactLostBytesSpec.post enc Try.prog Try.f7 false true false false) := by
  refine returnsInHanded_of_change_sized (C := Try.checked) own started (by kernel_rfl) Try.func7
    (ChangeSpec.witness6 (enc := enc) (C := Try.checked) false ⟨#[], #[.agg #[.slice none 0 0, .int .i64 0, .int .i64 0, .int .i64 0, .int .i64 0, .int .i64 0, .slice none 0 0], .slice none 0 0], []⟩ 8 (by kernel_rfl) (by kernel_rfl) (by kernel_rfl) (by kernel_rfl)) ?_
  intro W base args ds gs before hval0 hW hcnd hsz0 _
  have hsz : (DataW.weightsEach Try.prog (Try.f7.params.toList ++ Rows.fnExactLostBytesSpec.plain.varTypes Try.prog) (ds ++ gs)).all (· ≤ reachBytes) = true := hsz0
  have hval : ∀ (j : Nat) t v, Try.f7.params[j]? = some t → args[j]? = some v → Value.okWide Try.prog W .any base t v := hval0
  have hW' := hW
  obtain ⟨p, q, hA0, hV, rfl, hfz, hnd⟩ := hW
  have hA : DataW.TrodAll enc Try.prog W 0 (fun _ => true) true Try.f7.params.toList args.toList ds p := hA0
  rw [Try.params7] at hA hval hsz
  obtain ⟨v0, vs0, d0, ds0, p0, q0, hargs, rfl, rfl, h0, r0⟩ := trodAll_cons hA
  obtain ⟨v1, vs1, d1, ds1, p1, q1, rfl, rfl, rfl, h1, r1⟩ := trodAll_cons r0
  obtain ⟨rfl, rfl, rfl⟩ := trodAll_nil r1
  obtain rfl : args = #[v0, v1] := by cases args; simp_all
  obtain ⟨rfl, rfl⟩ := trodVars_none hV
  obtain ⟨cs0, rfl, _⟩ := okWide_struct Try.underlying29 (hval 0 29 v0 rfl rfl)
  have k0 := h0
  have lt0 : ∀ x ∈ p0, x.block < W.heap.size := by obtain ⟨m, hm⟩ := k0; exact DataW.trod_lt m _ _ _ hm
  obtain ⟨A0_0, c0_0, l0_0, a0_1, a0_2, a0_3, a0_4, a0_5, A0_6, c0_6, l0_6, e0, HR0_0, HC0_0, W0_0, W0_1, W0_2, W0_3, W0_4, W0_5, HR0_6, HC0_6, W0_6, _⟩ : ∃ (A0_0 : Option Addr) (c0_0 : Nat) (l0_0 : List (List Int)) (a0_1 : Int) (a0_2 : Int) (a0_3 : Int) (a0_4 : Int) (a0_5 : Int) (A0_6 : Option Addr) (c0_6 : Nat) (l0_6 : List Int), cs0 = #[.slice A0_0 l0_0.length c0_0, .int .i64 a0_1, .int .i64 a0_2, .int .i64 a0_3, .int .i64 a0_4, .int .i64 a0_5, .slice A0_6 l0_6.length c0_6] ∧ Kd.C (Kd.slice 5 (Kd.int .u8)) W A0_0 l0_0.length l0_0 ∧ l0_0.length ≤ c0_0 ∧ (l0_0.length ≤ maxLen ∧ ∀ z ∈ l0_0, (z.length ≤ maxLen ∧ ∀ z2 ∈ z, (Lit.int .u8 z2).wf = true)) ∧ (Lit.int .i64 a0_1).wf = true ∧ (Lit.int .i64 a0_2).wf = true ∧ (Lit.int .i64 a0_3).wf = true ∧ (Lit.int .i64 a0_4).wf = true ∧ (Lit.int .i64 a0_5).wf = true ∧ Kd.C (Kd.int .i64) W A0_6 l0_6.length l0_6 ∧ l0_6.length ≤ c0_6 ∧ (l0_6.length ≤ maxLen ∧ ∀ z ∈ l0_6, (Lit.int .i64 z).wf = true) ∧ True := by
    obtain ⟨fuel, hf⟩ := h0
    obtain ⟨A0_0, c0_0, l0_0, a0_1, a0_2, a0_3, a0_4, a0_5, A0_6, c0_6, l0_6, e_, r_⟩ := P.cells_29 hf
    refine ⟨A0_0, c0_0, l0_0, a0_1, a0_2, a0_3, a0_4, a0_5, A0_6, c0_6, l0_6, ?_, r_⟩
    exact Array.toList_inj.1 e_
  subst e0
  obtain ⟨A1, len1, c1, rfl⟩ := okWide_slice Try.underlying96 (hval 1 96 v1 rfl rfl)
  have k1 := h1
  have lt1 : ∀ x ∈ p1, x.block < W.heap.size := by obtain ⟨m, hm⟩ := k1; exact DataW.trod_lt m _ _ _ hm
  obtain ⟨l1, e1, HC1, HR1, W1⟩ : ∃ l : List S125, len1 = l.length ∧ l.length ≤ c1 ∧ Kd.C k125 W A1 l.length l ∧ (l.length ≤ maxLen ∧ ∀ z ∈ l, wf125 z) := by
    obtain ⟨fuel, hf⟩ := h1
    obtain ⟨l, ⟨A_, c_, e_, hc_, hr_⟩, w_⟩ := (P.opens_slice (P := Try.prog) Try.underlying96 P.opens_125 (by kernel_rfl)) hf rfl
    obtain ⟨rfl, rfl, rfl⟩ := Value.slice.inj (List.cons.inj e_).1
    exact ⟨l, rfl, hc_, hr_, w_⟩
  subst e1
  clear hA0 hval0 hsz0 hsz
  refine (P.FnExactLostBytes.call P.FnExactLostBytes.pure A0_0 c0_0 l0_0 a0_1 a0_2 a0_3 a0_4 a0_5 A0_6 c0_6 l0_6 A1 c1 l1 W HR0_0 HC0_0 HR0_6 HC0_6 HR1 HC1 W0_0 W0_1 W0_2 W0_3 W0_4 W0_5 W0_6 W1).mono fun e W' ⟨he, bel⟩ => ?_
  subst he
  exact ⟨_, rfl, _, _, _, [], _, [], hW', trodAll_mk1 (shut_bool Try.underlying4 _), (trodAll_cons_mk (Below.trod laidOut (by kernel_rfl) (of_decide_eq_true (by kernel_rfl)) k0 bel lt0) (trodAll_cons_mk (Below.trod laidOut (by kernel_rfl) (of_decide_eq_true (by kernel_rfl)) k1 bel lt1) trodAll_mk0)), rfl, bel.frame _, fun h => by cases h⟩

theorem cl1 : Try.pinned.checked.prog.funcNamed Rows.fnExactLostBytesRow.func = some 7 := by kernel_rfl

theorem cl2 : joinedFacts Try.pinned.checked.prog 7 Try.f7 Rows.fnExactLostBytesSpec Rows.fnExactLostBytesRow = true := by kernel_rfl

theorem cl3 : Try.f7.isInstance Try.pinned.checked.prog Rows.fnExactLostBytesRow.origin Rows.fnExactLostBytesRow.targs := of_decide_eq_true (by kernel_rfl)

theorem cl4 : Try.f7.isWrapper Try.pinned.checked.prog Rows.fnExactLostBytesRow.wrapper Rows.fnExactLostBytesRow.mainSum := (by unfold Func.isWrapper; first | (rw [if_pos (by decide +kernel)]; kernel_rfl) | (rw [if_neg (by decide +kernel)]; exact ⟨rfl, rfl⟩))

theorem over : Rows.fnExactLostBytesRow.holds Try.pinned (OpenSpec.ofChange Rows.fnExactLostBytesSpec) :=
  OpenClaim.holds_of_wide 7 Try.f7 rfl rfl rfl rfl rfl rfl rfl ⟨rfl, rfl, rfl, rfl, rfl⟩ rfl rfl rfl rfl rfl cl1 Try.func7 cl2 cl3 cl4
    (fun os started H enc _ => lifted os started H enc)

theorem proved : Rows.FnExactLostBytesSaid := over
#print axioms proved
end Go.Proofs.Ythlppjdlljofdaa.fnExactLostBytes
namespace Go.Proofs.Ythlppjdlljofdaa

/-- The row, under a short name, for the claim. -/
theorem fnExactLostBytes_holds : Rows.FnExactLostBytesSaid := fnExactLostBytes.proved
end Go.Proofs.Ythlppjdlljofdaa
