/- This text proves the given statement of the law FnExactGive: for every input the law returns true and its arguments read afterwards as before. Conditions: those of the given row and no other. -/
import Derived.Test.YtmkcbbbknbahgaaCFnExactGive3
import Derived.Test.YtmkcbbbknbahgaaRows
import Derived.WalkKit
import Derived.ProofKit
import Derived.OpenShut
import Derived.ShutString
import Derived.ChangeOld
import Derived.Below
import Derived.SizedLaws
namespace Go.Proofs.Ytmkcbbbknbahgaa.P
open Go.RowKit Go.Proofs.YtmkcbbbknbahgaaW.PrintWords Go.Proofs.YtmkcbbbknbahgaaW.PrintLast Go.Proofs.YtmkcbbbknbahgaaW.PrintMore
set_option linter.unusedVariables false

/-- From some number of rounds on, F tells r. -/
def Ter {α : Type} (F : Nat → Option α) (r : α) : Prop := ∃ K, ∀ k, K ≤ k → F k = some r

theorem Ter.const {α : Type} {o : Option α} {r : α} (h : o = some r) : Ter (fun _ => o) r := ⟨0, fun _ _ => h⟩

theorem Ter.ret {α : Type} (r : α) : Ter (fun _ => some r) r := ⟨0, fun _ _ => rfl⟩

theorem Ter.succ {α : Type} {F : Nat → Option α} {r : α} (h : Ter (fun k => F (k + 1)) r) : Ter F r := by
  obtain ⟨K, h⟩ := h
  refine ⟨K + 1, fun k hk => ?_⟩
  obtain ⟨j, rfl⟩ : ∃ j, k = j + 1 := ⟨k - 1, by omega⟩
  exact h j (by omega)

theorem Ter.bind {α β : Type} {F : Nat → Option α} {G : Nat → α → Option β} {a : α} {b : β} (h1 : Ter F a) (h2 : Ter (fun k => G k a) b) : Ter (fun k => (F k).bind (G k)) b := by
  obtain ⟨K1, h1⟩ := h1
  obtain ⟨K2, h2⟩ := h2
  refine ⟨K1 + K2, fun k hk => ?_⟩
  show (F k).bind (G k) = _
  rw [h1 k (by omega)]
  exact h2 k (by omega)

theorem Ter.ifp {α : Type} {c : Prop} [Decidable c] {F G : Nat → Option α} {r : α} (h : c) (h1 : Ter F r) : Ter (fun k => if c then F k else G k) r := by
  simp only [if_pos h]
  exact h1

theorem Ter.ifn {α : Type} {c : Prop} [Decidable c] {F G : Nat → Option α} {r : α} (h : ¬ c) (h1 : Ter G r) : Ter (fun k => if c then F k else G k) r := by
  simp only [if_neg h]
  exact h1

theorem Ter.congr {α : Type} {F G : Nat → Option α} {r : α} (h : ∀ k, F k = G k) (h1 : Ter G r) : Ter F r := by
  obtain ⟨K, h1⟩ := h1
  exact ⟨K, fun k hk => (h k).trans (h1 k hk)⟩

theorem Ter.eq {α : Type} {F : Nat → Option α} {r s : α} (h : Ter F r) (e : r = s) : Ter F s := e ▸ h

theorem Ter.at {α : Type} {F : Nat → Option α} {r : α} (h : Ter F r) : ∃ K, ∀ k, K ≤ k → F k = some r := h

/-- Down from the last index. -/
theorem down_ {Q : Nat → Prop} (n : Nat) (fin : Q n) (step : ∀ i, i < n → Q (i + 1) → Q i) : ∀ i, i ≤ n → Q i := by
  have h : ∀ j i, i + j = n → Q i := by
    intro j
    induction j with
    | zero => intro i h; have : i = n := by omega
              exact this ▸ fin
    | succ j ih => intro i h; exact step i (by omega) (ih (i + 1) (by omega))
  intro i hi
  exact h (n - i) i (by omega)

theorem w64 {n : Int} (h0 : -9223372036854775808 ≤ n) (h1 : n ≤ 9223372036854775807) : wrap64 n = n := by unfold wrap64; omega

theorem w64s {i n : Nat} (h : i < n) (hn : n ≤ 9223372036854775807) : wrap64 ((i : Int) + 1) = ((i + 1 : Nat) : Int) := by
  rw [w64 (by omega) (by omega)]
  omega

theorem maxLen_ : maxLen = 9223372036854775807 := rfl

theorem getD_at {α : Type} {xs : List α} {d : α} {i : Nat} (h : i < xs.length) : xs.getD ((i : Int)).toNat d = xs[i] := by
  rw [Int.toNat_natCast, List.getD_eq_getElem?_getD, List.getElem?_eq_getElem h]
  rfl

theorem rd_at {xs : List Int} {i : Nat} (h : i < xs.length) : rd xs (i : Int) = xs[i] := getD_at h

theorem fill_set {α : Type} {xs : List α} {z : α} {i : Nat} (h : i < xs.length) : (xs.take i ++ List.replicate (xs.length - i) z).set ((i : Int)).toNat xs[i] = xs.take (i + 1) ++ List.replicate (xs.length - (i + 1)) z := by
  rw [Int.toNat_natCast]
  apply List.ext_getElem?
  intro j
  by_cases hj : j = i
  · subst hj
    rw [List.getElem?_set_self (by simp; omega), List.getElem?_append_left (by simp; omega), List.getElem?_take_of_lt (by omega), List.getElem?_eq_getElem h]
  · rw [List.getElem?_set_ne (by omega)]
    by_cases h1 : j < i
    · rw [List.getElem?_append_left (by simp; omega), List.getElem?_append_left (by simp; omega), List.getElem?_take_of_lt h1, List.getElem?_take_of_lt (by omega)]
    · rw [List.getElem?_append_right (by simp; omega), List.getElem?_append_right (by simp; omega)]
      simp only [List.length_take, List.getElem?_replicate]
      rw [show min i xs.length = i by omega, show min (i + 1) xs.length = i + 1 by omega]
      by_cases h2 : j < xs.length
      · rw [if_pos (by omega), if_pos (by omega)]
      · rw [if_neg (by omega), if_neg (by omega)]

theorem fill_len {α : Type} {xs : List α} {z : α} {i : Nat} (h : i ≤ xs.length) : (xs.take i ++ List.replicate (xs.length - i) z).length = xs.length := by
  simp
  omega

theorem fill_all {α : Type} {xs : List α} {z : α} : xs.take xs.length ++ List.replicate (xs.length - xs.length) z = xs := by simp

theorem take_one {α : Type} {xs : List α} {i : Nat} (h : i < xs.length) : xs.take i ++ [xs[i]] = xs.take (i + 1) := by
  rw [List.take_add_one, List.getElem?_eq_getElem h]
  rfl
end Go.Proofs.Ytmkcbbbknbahgaa.P
namespace Go.Proofs.Ytmkcbbbknbahgaa.P
open Go.RowKit Go.Proofs.YtmkcbbbknbahgaaW.PrintWords Go.Proofs.YtmkcbbbknbahgaaW.PrintLast Go.Proofs.YtmkcbbbknbahgaaW.PrintMore
set_option linter.unusedVariables false

def Small {α : Type} (l : List α) : Prop := l.length ≤ 1048576

theorem Small.le {α : Type} {l : List α} (h : Small l) : l.length ≤ 1048576 := h

theorem szByteS_is {l : List Int} {a : Int} (h0 : 0 ≤ a) (h1 : a ≤ 1048576) (hl : l.length ≤ maxLen) : ∃ r, laws_szByteS.f l a = some r ∧ (r < 0 ∨ (0 ≤ r ∧ r ≤ a ∧ Small l)) := by
  rw [maxLen_] at hl
  unfold laws_szByteS.f Small
  rw [w64 (by omega) (by omega)]
  by_cases h : a - (l.length : Int) < 0
  · rw [if_pos h]; exact ⟨_, rfl, .inl (by omega)⟩
  · rw [if_neg h]; exact ⟨_, rfl, .inr (by omega)⟩

theorem szByteSS_is {l : List (List Int)} {a : Int} (h0 : 0 ≤ a) (h1 : a ≤ 1048576) (hl : l.length ≤ maxLen ∧ ∀ z ∈ l, z.length ≤ maxLen) : ∃ r, Ter (fun k => laws_szByteSS.f k l a) r ∧ (r < 0 ∨ (0 ≤ r ∧ r ≤ a ∧ Small l ∧ ∀ z ∈ l, Small z)) := by
  have hl1 := hl.1
  rw [maxLen_] at hl1
  unfold laws_szByteSS.f
  rw [w64 (by omega) (by omega)]
  by_cases h : a - (l.length : Int) < 0
  · simp only [if_pos h]; exact ⟨_, Ter.ret _, .inl (by omega)⟩
  · simp only [if_neg h]
    have hs : Small l := by unfold Small; omega
    have key := down_ (Q := fun i => ∀ b, 0 ≤ b → b ≤ a → ∃ r, Ter (fun k => laws_szByteSS.l0 k l b (i : Int)) r ∧ (r < 0 ∨ (0 ≤ r ∧ r ≤ b ∧ ∀ j, i ≤ j → ∀ hj : j < l.length, Small l[j]))) l.length
      (fun b hb0 hb1 => ⟨b, Ter.succ (by simp only [laws_szByteSS.l0]; exact Ter.ifn (by omega) (Ter.ret _)), .inr ⟨hb0, Int.le_refl _, fun j h1 h2 => by omega⟩⟩)
      (fun i hi ih b hb0 hb1 => by
        obtain ⟨r, hr, hr2⟩ := szByteS_is (l := l[i]) hb0 (by omega) (hl.2 _ (List.getElem_mem hi))
        rcases hr2 with hr2 | ⟨hr2, hr3, hr4⟩
        · refine ⟨-1, Ter.succ ?_, .inl (by omega)⟩
          simp only [laws_szByteSS.l0]
          refine Ter.ifp (by omega) (Ter.ifp (by omega) ?_)
          rw [show rd_L1 l (i : Int) = l[i] from getD_at hi, hr]
          exact Ter.ifp (c := r < 0) hr2 (Ter.ret _)
        · obtain ⟨q, hq, hq2⟩ := ih r hr2 (by omega)
          refine ⟨q, Ter.succ ?_, ?_⟩
          · simp only [laws_szByteSS.l0]
            refine Ter.ifp (by omega) (Ter.ifp (by omega) ?_)
            rw [show rd_L1 l (i : Int) = l[i] from getD_at hi, hr]
            refine Ter.ifn (c := r < 0) (by omega) ?_
            rw [w64s hi (by omega)]
            exact hq
          · rcases hq2 with h | ⟨h1, h2, h3⟩
            · exact .inl h
            · refine .inr ⟨h1, by omega, fun j hj hj2 => ?_⟩
              by_cases hij : j = i
              · subst hij; exact hr4
              · exact h3 j (by omega) hj2) 0 (by omega) (a - (l.length : Int)) (by omega) (by omega)
    obtain ⟨r, hr, hr2⟩ := key
    refine ⟨r, hr, ?_⟩
    rcases hr2 with h | ⟨h1, h2, h3⟩
    · exact .inl h
    · refine .inr ⟨h1, by omega, hs, fun z hz => ?_⟩
      obtain ⟨j, hj, rfl⟩ := List.getElem_of_mem hz
      exact h3 j (by omega) hj

theorem szMemory_is {l : List (List Int)} {a : Int} (h0 : 0 ≤ a) (h1 : a ≤ 1048576) (hl : l.length ≤ maxLen ∧ ∀ z ∈ l, z.length ≤ maxLen) : ∃ r, Ter (fun k => laws_szMemory.f k l a) r ∧ (r < 0 ∨ (0 ≤ r ∧ r ≤ a ∧ Small l ∧ ∀ z ∈ l, Small z)) := by
  obtain ⟨r, hr, h⟩ := szByteSS_is h0 h1 hl
  unfold laws_szMemory.f
  rcases h with h | ⟨h2, h3, h4⟩
  · exact ⟨-1, hr.bind (Ter.ifp h (Ter.ret _)), .inl (by omega)⟩
  · exact ⟨r, hr.bind (Ter.ifn (by omega) (Ter.ret _)), .inr ⟨h2, h3, h4⟩⟩

theorem toByteS_is {l : List Int} (h : Small l) : Ter (fun k => laws_toByteS.f k l) l := by
  have hl := h.le
  unfold laws_toByteS.f
  refine Ter.ifp (by omega) (Ter.ifp (by omega) ?_)
  have key := down_ (Q := fun i => Ter (fun k => laws_toByteS.l0 k l (l.take i ++ List.replicate (l.length - i) 0) (i : Int)) l) l.length
    (Ter.succ (by simp only [laws_toByteS.l0]; exact Ter.ifn (by omega) ((Ter.ret _).eq fill_all)))
    (fun i hi ih => by
      refine Ter.succ ?_
      simp only [laws_toByteS.l0]
      refine Ter.ifp (by omega) (Ter.ifp (by omega) (Ter.ifp (by rw [fill_len (by omega)]; omega) ?_))
      rw [rd_at hi, w64s hi (by omega), fill_set hi]
      exact ih) 0 (by omega)
  simpa using key

theorem toByteSS_is {l : List (List Int)} (h : Small l) (hz : ∀ z ∈ l, Small z) : Ter (fun k => laws_toByteSS.f k l) l := by
  have hl := h.le
  unfold laws_toByteSS.f
  refine Ter.ifp (by omega) (Ter.ifp (by omega) ?_)
  have key := down_ (Q := fun i => Ter (fun k => laws_toByteSS.l0 k l (l.take i ++ List.replicate (l.length - i) []) (i : Int)) l) l.length
    (Ter.succ (by simp only [laws_toByteSS.l0]; exact Ter.ifn (by omega) ((Ter.ret _).eq fill_all)))
    (fun i hi ih => by
      refine Ter.succ ?_
      simp only [laws_toByteSS.l0]
      refine Ter.ifp (by omega) (Ter.ifp (by omega) ?_)
      rw [show rd_L1 l (i : Int) = l[i] from getD_at hi]
      refine (toByteS_is (hz _ (List.getElem_mem hi))).bind (Ter.ifp (by rw [fill_len (by omega)]; omega) ?_)
      rw [w64s hi (by omega), fill_set hi]
      exact ih) 0 (by omega)
  simpa using key

theorem toMemory_is {l : List (List Int)} (h : Small l) (hz : ∀ z ∈ l, Small z) : Ter (fun k => laws_toMemory.f k l) l := (toByteSS_is h hz).bind (Ter.ret _)

theorem eqByteS_is {l : List Int} (h : l.length ≤ maxLen) : Ter (fun k => laws_eqByteS.f k l l) true := by
  rw [maxLen_] at h
  unfold laws_eqByteS.f
  refine Ter.ifp rfl ?_
  exact down_ (Q := fun i => Ter (fun k => laws_eqByteS.l0 k l l (i : Int)) true) l.length
    (Ter.succ (by simp only [laws_eqByteS.l0]; exact Ter.ifn (by omega) (Ter.ret _)))
    (fun i hi ih => by
      refine Ter.succ ?_
      simp only [laws_eqByteS.l0, if_true]
      refine Ter.ifp (by omega) (Ter.ifp (by omega) (Ter.ifp (by omega) ?_))
      rw [w64s hi (by omega)]
      exact ih) 0 (by omega)

theorem eqByteSS_is {l : List (List Int)} (h : l.length ≤ maxLen ∧ ∀ z ∈ l, z.length ≤ maxLen) : Ter (fun k => laws_eqByteSS.f k l l) true := by
  have h1 := h.1
  rw [maxLen_] at h1
  unfold laws_eqByteSS.f
  refine Ter.ifp rfl ?_
  exact down_ (Q := fun i => Ter (fun k => laws_eqByteSS.l0 k l l (i : Int)) true) l.length
    (Ter.succ (by simp only [laws_eqByteSS.l0]; exact Ter.ifn (by omega) (Ter.ret _)))
    (fun i hi ih => by
      refine Ter.succ ?_
      simp only [laws_eqByteSS.l0]
      refine Ter.ifp (by omega) (Ter.ifp (by omega) (Ter.ifp (by omega) ?_))
      rw [show rd_L1 l (i : Int) = l[i] from getD_at hi]
      refine (eqByteS_is (h.2 _ (List.getElem_mem hi))).bind (Ter.ifp rfl ?_)
      rw [w64s hi (by omega)]
      exact ih) 0 (by omega)

theorem eqMemory_is {l : List (List Int)} (h : l.length ≤ maxLen ∧ ∀ z ∈ l, z.length ≤ maxLen) : Ter (fun k => laws_eqMemory.f k l l) true := (eqByteSS_is h).bind (Ter.ifp rfl (Ter.ret _))

/-- Marks: the numbers written and the number behind them; what is held is told again. -/
theorem markByteS_is {l : List Int} {a : Int} (h0 : 0 ≤ a) (h1 : a + l.length ≤ 9223372036854775807) : ∃ y, y.length = l.length ∧ Ter (fun k => laws_markByteS.f k l a) (a + l.length, y) ∧ Ter (fun k => laws_heldByteS.f k y a) (a + l.length) := by
  unfold laws_markByteS.f laws_heldByteS.f
  have key := down_ (Q := fun i => ∀ y : List Int, y.length = l.length → ∃ y', y'.length = l.length ∧ (∀ j, j < i → y'[j]? = y[j]?) ∧ Ter (fun k => laws_markByteS.l0 k y (a + i) (i : Int)) (a + l.length, y') ∧ Ter (fun k => laws_heldByteS.l0 k y' (a + i) (i : Int)) (a + l.length)) l.length
    (fun y hy => ⟨y, hy, fun _ _ => rfl, Ter.succ (by simp only [laws_markByteS.l0]; exact Ter.ifn (by omega) (Ter.ret _)), Ter.succ (by simp only [laws_heldByteS.l0]; exact Ter.ifn (by omega) (Ter.ret _))⟩)
    (fun i hi ih y hy => by
      obtain ⟨y', hy', hj, hm, hh⟩ := ih (y.set i ((a + i) % 256)) (by simpa using hy)
      have e : (a + (i : Int)) + 1 = a + ((i + 1 : Nat) : Int) := by omega
      refine ⟨y', hy', fun j hji => ?_, Ter.succ ?_, Ter.succ ?_⟩
      · rw [hj j (by omega), List.getElem?_set_ne (by omega)]
      · simp only [laws_markByteS.l0]
        refine Ter.ifp (by omega) (Ter.ifp (by omega) ?_)
        rw [w64s hi (by omega), w64 (by omega) (by omega), e, Int.toNat_natCast]
        exact hm
      · simp only [laws_heldByteS.l0]
        refine Ter.ifp (by omega) (Ter.ifp (by omega) (Ter.ifp ?_ ?_))
        · have := hj i (by omega)
          rw [List.getElem?_set_self (by omega), List.getElem?_eq_getElem (by omega)] at this
          rw [rd_at (by omega)]
          exact Option.some.inj this
        · rw [w64s hi (by omega), w64 (by omega) (by omega), e]
          exact hh) 0 (by omega) l rfl
  obtain ⟨y, hy, _, hm, hh⟩ := key
  exact ⟨y, hy, by simpa using hm, by simpa using hh⟩

def total (l : List (List Int)) : Nat := (l.map List.length).sum

theorem total_le : ∀ {l : List (List Int)}, (∀ z ∈ l, Small z) → total l ≤ l.length * 1048576
  | [], _ => by simp [total]
  | z :: l, h => by
    have := total_le (fun z hz => h z (List.mem_cons_of_mem _ hz))
    have := (h z (List.mem_cons_self ..)).le
    simp only [total, List.map_cons, List.sum_cons, List.length_cons] at *
    omega

theorem markByteSS_is {l : List (List Int)} {a : Int} (h0 : 0 ≤ a) (hl : l.length ≤ 4294967296) (h1 : a + total l ≤ 9223372036854775807) : ∃ y, y.length = l.length ∧ Ter (fun k => laws_markByteSS.f k l a) (a + total l, y) ∧ Ter (fun k => laws_heldByteSS.f k y a) (a + total l) := by
  unfold laws_markByteSS.f laws_heldByteSS.f
  have key := down_ (Q := fun i => ∀ (b : Int) (y : List (List Int)), 0 ≤ b → b + total (l.drop i) ≤ 9223372036854775807 → y.length = l.length → (∀ j, i ≤ j → y[j]? = l[j]?) → ∃ y', y'.length = l.length ∧ (∀ j, j < i → y'[j]? = y[j]?) ∧ Ter (fun k => laws_markByteSS.l0 k y b (i : Int)) (b + total (l.drop i), y') ∧ Ter (fun k => laws_heldByteSS.l0 k y' b (i : Int)) (b + total (l.drop i))) l.length
    (fun b y hb hb2 hy _ => ⟨y, hy, fun _ _ => rfl, Ter.succ (by simp only [laws_markByteSS.l0]; exact Ter.ifn (by omega) ((Ter.ret _).eq (by simp [total]))), Ter.succ (by simp only [laws_heldByteSS.l0]; exact Ter.ifn (by omega) ((Ter.ret _).eq (by simp [total])))⟩)
    (fun i hi ih b y hb hb2 hy hsame => by
      have hd : l.drop i = l[i] :: l.drop (i + 1) := List.drop_eq_getElem_cons hi
      have ht : total (l.drop i) = l[i].length + total (l.drop (i + 1)) := by rw [hd]; rfl
      rw [ht] at hb2 ⊢
      obtain ⟨z, hz, hzm, hzh⟩ := markByteS_is (l := l[i]) hb (by omega)
      obtain ⟨y', hy', hj, hm, hh⟩ := ih (b + l[i].length) (y.set i z) (by omega) (by omega) (by simpa using hy) (fun j hj => by rw [List.getElem?_set_ne (by omega)]; exact hsame j (by omega))
      have e : b + (l[i].length : Int) + (total (l.drop (i + 1)) : Int) = b + ((l[i].length + total (l.drop (i + 1)) : Nat) : Int) := by omega
      rw [e] at hm hh
      have hyi : y[i]'(by omega) = l[i] := by
        have := hsame i (Nat.le_refl _)
        rw [List.getElem?_eq_getElem (by omega), List.getElem?_eq_getElem hi] at this
        exact Option.some.inj this
      refine ⟨y', hy', fun j hji => ?_, Ter.succ ?_, Ter.succ ?_⟩
      · rw [hj j (by omega), List.getElem?_set_ne (by omega)]
      · simp only [laws_markByteSS.l0]
        refine Ter.ifp (by omega) (Ter.ifp (by omega) ?_)
        rw [show rd_L1 y (i : Int) = l[i] from (getD_at (by omega)).trans hyi]
        refine hzm.bind ?_
        rw [w64s hi (by omega), Int.toNat_natCast]
        exact hm
      · simp only [laws_heldByteSS.l0]
        refine Ter.ifp (by omega) (Ter.ifp (by omega) ?_)
        have := hj i (by omega)
        rw [List.getElem?_set_self (by omega), List.getElem?_eq_getElem (by omega)] at this
        rw [show rd_L1 y' (i : Int) = z from (getD_at (by omega)).trans (Option.some.inj this)]
        refine hzh.bind (Ter.ifn (by omega) ?_)
        rw [w64s hi (by omega)]
        exact hh) 0 (by omega) a l h0 (by simpa using h1) rfl (fun _ _ => rfl)
  obtain ⟨y, hy, _, hm, hh⟩ := key
  exact ⟨y, hy, by simpa using hm, by simpa using hh⟩

theorem heldMemory_is {y : List (List Int)} {a r : Int} (h0 : 0 ≤ r) (h : Ter (fun k => laws_heldByteSS.f k y a) r) : Ter (fun k => laws_heldMemory.f k y a) r := h.bind (Ter.ifn (by omega) (Ter.ret _))
end Go.Proofs.Ytmkcbbbknbahgaa.P
namespace Go.Proofs.Ytmkcbbbknbahgaa.P
open Go.RowKit Go.Proofs.YtmkcbbbknbahgaaW.PrintWords Go.Proofs.YtmkcbbbknbahgaaW.PrintLast Go.Proofs.YtmkcbbbknbahgaaW.PrintMore
set_option linter.unusedVariables false

def wf64 (n : Int) : Prop := -9223372036854775808 ≤ n ∧ n ≤ 9223372036854775807

theorem wf64_of {n : Int} (h : (Lit.int .i64 n).wf = true) : wf64 n := by
  simp only [Lit.wf, Bool.and_eq_true, decide_eq_true_eq] at h
  exact h

def wfW (x : S32) : Prop := wf64 x.f0 ∧ wf64 x.f1 ∧ wf64 x.f2 ∧ wf64 x.f3

theorem eqWindow_is (a b c d : Int) : laws_eqWindow.f a b c d a b c d = some true := by simp [laws_eqWindow.f]
end Go.Proofs.Ytmkcbbbknbahgaa.P
namespace Go.Proofs.Ytmkcbbbknbahgaa.P
open Go.RowKit Go.Proofs.YtmkcbbbknbahgaaW.PrintWords Go.Proofs.YtmkcbbbknbahgaaW.PrintLast Go.Proofs.YtmkcbbbknbahgaaW.PrintMore
set_option linter.unusedVariables false

theorem szIntS_is {l : List Int} {a : Int} (h0 : 0 ≤ a) (h1 : a ≤ 1048576) (hl : l.length ≤ maxLen) : ∃ r, laws_szIntS.f l a = some r ∧ (r < 0 ∨ (0 ≤ r ∧ r ≤ a ∧ Small l)) := by
  rw [maxLen_] at hl
  unfold laws_szIntS.f Small
  rw [w64 (by omega) (by omega)]
  by_cases h : a - (l.length : Int) < 0
  · rw [if_pos h]; exact ⟨_, rfl, .inl (by omega)⟩
  · rw [if_neg h]; exact ⟨_, rfl, .inr (by omega)⟩

theorem toIntS_is {l : List Int} (h : Small l) : Ter (fun k => laws_toIntS.f k l) l := by
  have hl := h.le
  unfold laws_toIntS.f
  refine Ter.ifp (by omega) (Ter.ifp (by omega) ?_)
  have key := down_ (Q := fun i => Ter (fun k => laws_toIntS.l0 k l (l.take i ++ List.replicate (l.length - i) 0) (i : Int)) l) l.length
    (Ter.succ (by simp only [laws_toIntS.l0]; exact Ter.ifn (by omega) ((Ter.ret _).eq fill_all)))
    (fun i hi ih => by
      refine Ter.succ ?_
      simp only [laws_toIntS.l0]
      refine Ter.ifp (by omega) (Ter.ifp (by omega) (Ter.ifp (by rw [fill_len (by omega)]; omega) ?_))
      rw [rd_at hi, w64s hi (by omega), fill_set hi]
      exact ih) 0 (by omega)
  simpa using key

theorem eqIntS_is {l : List Int} (h : l.length ≤ maxLen) : Ter (fun k => laws_eqIntS.f k l l) true := by
  rw [maxLen_] at h
  unfold laws_eqIntS.f
  refine Ter.ifp rfl ?_
  exact down_ (Q := fun i => Ter (fun k => laws_eqIntS.l0 k l l (i : Int)) true) l.length
    (Ter.succ (by simp only [laws_eqIntS.l0]; exact Ter.ifn (by omega) (Ter.ret _)))
    (fun i hi ih => by
      refine Ter.succ ?_
      simp only [laws_eqIntS.l0, if_true]
      refine Ter.ifp (by omega) (Ter.ifp (by omega) (Ter.ifp (by omega) ?_))
      rw [w64s hi (by omega)]
      exact ih) 0 (by omega)

theorem markIntS_is {l : List Int} {a : Int} (h0 : 0 ≤ a) (h1 : a + l.length ≤ 9223372036854775807) : ∃ y, y.length = l.length ∧ Ter (fun k => laws_markIntS.f k l a) (a + l.length, y) ∧ Ter (fun k => laws_heldIntS.f k y a) (a + l.length) := by
  unfold laws_markIntS.f laws_heldIntS.f
  have key := down_ (Q := fun i => ∀ y : List Int, y.length = l.length → ∃ y', y'.length = l.length ∧ (∀ j, j < i → y'[j]? = y[j]?) ∧ Ter (fun k => laws_markIntS.l0 k y (a + i) (i : Int)) (a + l.length, y') ∧ Ter (fun k => laws_heldIntS.l0 k y' (a + i) (i : Int)) (a + l.length)) l.length
    (fun y hy => ⟨y, hy, fun _ _ => rfl, Ter.succ (by simp only [laws_markIntS.l0]; exact Ter.ifn (by omega) (Ter.ret _)), Ter.succ (by simp only [laws_heldIntS.l0]; exact Ter.ifn (by omega) (Ter.ret _))⟩)
    (fun i hi ih y hy => by
      obtain ⟨y', hy', hj, hm, hh⟩ := ih (y.set i (a + i)) (by simpa using hy)
      have e : (a + (i : Int)) + 1 = a + ((i + 1 : Nat) : Int) := by omega
      refine ⟨y', hy', fun j hji => ?_, Ter.succ ?_, Ter.succ ?_⟩
      · rw [hj j (by omega), List.getElem?_set_ne (by omega)]
      · simp only [laws_markIntS.l0]
        refine Ter.ifp (by omega) (Ter.ifp (by omega) ?_)
        rw [w64s hi (by omega), w64 (by omega) (by omega), e, Int.toNat_natCast]
        exact hm
      · simp only [laws_heldIntS.l0]
        refine Ter.ifp (by omega) (Ter.ifp (by omega) (Ter.ifp ?_ ?_))
        · have := hj i (by omega)
          rw [List.getElem?_set_self (by omega), List.getElem?_eq_getElem (by omega)] at this
          rw [rd_at (by omega)]
          exact Option.some.inj this
        · rw [w64s hi (by omega), w64 (by omega) (by omega), e]
          exact hh) 0 (by omega) l rfl
  obtain ⟨y, hy, _, hm, hh⟩ := key
  exact ⟨y, hy, by simpa using hm, by simpa using hh⟩

theorem szArena_is {m : List (List Int)} {a s n c u : Int} {l : List Int} (hl : m.length ≤ maxLen ∧ ∀ z ∈ m, z.length ≤ maxLen) (hw : l.length ≤ maxLen) {t : Int} (ht0 : 0 ≤ t) (ht : t ≤ 1048576) : ∃ r, Ter (fun k => laws_szArena.f k m a s n c u l t) r ∧ (r < 0 ∨ (0 ≤ r ∧ r ≤ t ∧ Small m ∧ (∀ z ∈ m, Small z) ∧ Small l)) := by
  unfold laws_szArena.f
  obtain ⟨r, hr, h⟩ := szMemory_is (a := t) (by omega) (by omega) hl
  rcases h with h | ⟨h1, h2, h3, h4⟩
  · exact ⟨-1, hr.bind (Ter.ifp h (Ter.ret _)), .inl (by omega)⟩
  · obtain ⟨q, hq, h⟩ := szIntS_is h1 (by omega) hw
    rcases h with h | ⟨h5, h6, h7⟩
    · exact ⟨-1, hr.bind (Ter.ifn (by omega) (Ter.bind (F := fun _ => laws_szIntS.f l r) (Ter.const hq) (Ter.ifp h (Ter.ret _)))), .inl (by omega)⟩
    · exact ⟨q, hr.bind (Ter.ifn (by omega) (Ter.bind (F := fun _ => laws_szIntS.f l r) (Ter.const hq) (Ter.ifn (by omega) (Ter.ret _)))), .inr ⟨by omega, by omega, h3, h4, h7⟩⟩

theorem toArena_is {m : List (List Int)} {a s n c u : Int} {l : List Int} (h : Small m) (hz : ∀ z ∈ m, Small z) (hl : Small l) : Ter (fun k => laws_toArena.f k m a s n c u l) (m, a, s, n, c, u, l) := by
  unfold laws_toArena.f
  exact (toMemory_is h hz).bind (Ter.bind (F := fun _ => laws_toWindow.f a s n c) (a := (a, s, n, c)) (Ter.ret _) ((toIntS_is hl).bind (Ter.ret _)))

theorem eqArena_is {m : List (List Int)} {a s n c u : Int} {l : List Int} (h : Small m) (hz : ∀ z ∈ m, Small z) (hl : Small l) : Ter (fun k => laws_eqArena.f k m a s n c u l m a s n c u l) true := by
  unfold laws_eqArena.f
  refine (eqMemory_is ⟨by have := h.le; rw [maxLen_]; omega, fun z hz1 => by have := (hz z hz1).le; rw [maxLen_]; omega⟩).bind (Ter.ifp rfl (Ter.bind (F := fun _ => laws_eqWindow.f a s n c a s n c) (Ter.const (eqWindow_is _ _ _ _)) (Ter.ifp rfl ?_)))
  simp only [if_true]
  exact (eqIntS_is (by have := hl.le; rw [maxLen_]; omega)).bind (Ter.ifp rfl (Ter.ret _))

theorem markArena_is {m : List (List Int)} {a s n c u : Int} {l : List Int} {b : Int} (h : Small m) (hz : ∀ z ∈ m, Small z) (hl : Small l) (hb : 0 ≤ b) (hb2 : b ≤ 4611686018427387904) : ∃ x y r, x.length = m.length ∧ y.length = l.length ∧ ¬ r < 0 ∧ r ≤ b + 1099513724928 ∧ Ter (fun k => laws_markArena.f k m l b) (r, x, y) ∧ Ter (fun k => laws_heldArena.f k x a s n c u y b) r := by
  have ht := total_le hz
  have h1 := h.le
  have h2 := hl.le
  obtain ⟨x, hx, hm1, hm2⟩ := markByteSS_is (l := m) (a := b) (by omega) (by omega) (by omega)
  obtain ⟨y, hy, hy1, hy2⟩ := markIntS_is (l := l) (a := b + total m) (by omega) (by omega)
  refine ⟨x, y, _, hx, hy, by omega, by omega, hm1.bind (hy1.bind (Ter.ret _)), ?_⟩
  unfold laws_heldArena.f
  exact (heldMemory_is (by omega) hm2).bind (Ter.ifn (by omega) (hy2.bind (Ter.ifn (by omega) (Ter.ret _))))
end Go.Proofs.Ytmkcbbbknbahgaa.P
namespace Go.Proofs.Ytmkcbbbknbahgaa.P
open Go.RowKit Go.Proofs.YtmkcbbbknbahgaaW.PrintWords Go.Proofs.YtmkcbbbknbahgaaW.PrintLast Go.Proofs.YtmkcbbbknbahgaaW.PrintMore
set_option linter.unusedVariables false

theorem in_is (a b c : Int) : spec_l1In.f a b c = some (decide (b ≤ a ∧ a ≤ c)) := by
  unfold spec_l1In.f
  by_cases h : a ≥ b
  · rw [if_pos h]; congr 1; simp only [decide_eq_decide]; omega
  · rw [if_neg h]; congr 1; symm; simp only [decide_eq_false_iff_not]; omega

theorem within_is (a b c : Int) : impl_within.f a b c = some (decide (b ≤ a ∧ a ≤ c)) := by
  unfold impl_within.f
  by_cases h : a ≥ b
  · rw [if_pos h]; congr 1; simp only [decide_eq_decide]; omega
  · rw [if_neg h]; congr 1; symm; simp only [decide_eq_false_iff_not]; omega

/-- A valid memory. -/
def IsMem (m : List (List Int)) : Prop := m.length ≤ 16 ∧ ∀ z ∈ m, 1 ≤ z.length ∧ z.length ≤ 64

instance (m : List (List Int)) : Decidable (IsMem m) := by unfold IsMem; infer_instance

theorem IsMem.at {m : List (List Int)} (h : IsMem m) {i : Nat} (hi : i < m.length) : 1 ≤ m[i].length ∧ m[i].length ≤ 64 := h.2 _ (List.getElem_mem hi)

theorem l2Memory_is {m : List (List Int)} (h : m.length ≤ maxLen) : Ter (fun k => spec_l2Memory.f k m) (decide (IsMem m)) := by
  rw [maxLen_] at h
  unfold spec_l2Memory.f
  have key := down_ (Q := fun i => (∀ j, j < i → ∀ hj : j < m.length, 1 ≤ m[j].length ∧ m[j].length ≤ 64) → Ter (fun k => spec_l2Memory.l0 k (i : Int) m) (decide (IsMem m))) m.length
    (fun ok => by
      refine Ter.succ ?_
      simp only [spec_l2Memory.l0]
      refine Ter.ifn (by omega) (Ter.succ ?_)
      simp only [spec_l2Memory.j1]
      refine Ter.ifn (by simp) ((Ter.ret _).eq ?_)
      simp only [decide_eq_decide]
      constructor
      · intro h1
        refine ⟨by omega, fun z hz => ?_⟩
        obtain ⟨j, hj, rfl⟩ := List.getElem_of_mem hz
        exact ok j hj hj
      · intro h1; have := h1.1; omega)
    (fun i hi ih ok => by
      refine Ter.succ ?_
      simp only [spec_l2Memory.l0]
      refine Ter.ifp (by omega) (Ter.succ ?_)
      simp only [spec_l2Memory.j1]
      by_cases h16 : (i : Int) ≤ 16
      · refine Ter.ifp (by simpa using h16) (Ter.ifp (by omega) (Ter.ifp (by omega) ?_))
        rw [show rd_L1 m (i : Int) = m[i] from getD_at hi, in_is]
        by_cases hl : 1 ≤ (m[i].length : Int) ∧ (m[i].length : Int) ≤ 64
        · refine Ter.ifp (c := decide _ = true) (by simpa using hl) ?_
          rw [w64s hi (by omega)]
          exact ih (fun j hj hj2 => by
            by_cases hji : j = i
            · subst hji; omega
            · exact ok j (by omega) hj2)
        · refine Ter.ifn (c := decide _ = true) (by simpa using hl) ((Ter.ret _).eq ?_)
          symm
          simp only [decide_eq_false_iff_not]
          intro h1
          have := h1.at hi
          omega
      · refine Ter.ifn (by simpa using h16) ((Ter.ret _).eq ?_)
        simp only [decide_eq_decide]
        constructor
        · intro h1; omega
        · intro h1; have := h1.1; omega) 0 (by omega)
  exact key (fun j hj => by omega)

theorem isMemory_is {m : List (List Int)} (h : m.length ≤ maxLen) : Ter (fun k => impl_IsMemory.f k m) (decide (IsMem m)) := by
  rw [maxLen_] at h
  unfold impl_IsMemory.f
  have key := down_ (Q := fun i => (∀ j, j < i → ∀ hj : j < m.length, 1 ≤ m[j].length ∧ m[j].length ≤ 64) → Ter (fun k => impl_IsMemory.l0 k m (m.length : Int) (i : Int) m) (decide (IsMem m))) m.length
    (fun ok => by
      refine Ter.succ ?_
      simp only [impl_IsMemory.l0]
      refine Ter.ifn (by omega) ((Ter.ret _).eq ?_)
      simp only [decide_eq_decide]
      constructor
      · intro h1
        refine ⟨by omega, fun z hz => ?_⟩
        obtain ⟨j, hj, rfl⟩ := List.getElem_of_mem hz
        exact ok j hj hj
      · intro h1; have := h1.1; omega)
    (fun i hi ih ok => by
      refine Ter.succ ?_
      simp only [impl_IsMemory.l0]
      refine Ter.ifp (by omega) (Ter.ifp (by omega) (Ter.ifp (by omega) ?_))
      rw [show rd_L1 m (i : Int) = m[i] from getD_at hi, within_is]
      by_cases hl : 1 ≤ (m[i].length : Int) ∧ (m[i].length : Int) ≤ 64
      · refine Ter.ifp (c := decide _ = true) (by simpa using hl) ?_
        rw [w64s hi (by omega)]
        exact ih (fun j hj hj2 => by
          by_cases hji : j = i
          · subst hji; omega
          · exact ok j (by omega) hj2)
      · refine Ter.ifn (c := decide _ = true) (by simpa using hl) ((Ter.ret _).eq ?_)
        symm
        simp only [decide_eq_false_iff_not]
        intro h1
        have := h1.at hi
        omega) 0 (by omega)
  exact key (fun j hj => by omega)

/-- A window of the memory. -/
def OnMem (m : List (List Int)) (a s n c : Int) : Prop := 0 ≤ a ∧ a < m.length ∧ 0 ≤ s ∧ s + c ≤ ((m.getD a.toNat []).length : Int) ∧ 0 ≤ n ∧ n ≤ c

instance (m : List (List Int)) (a s n c : Int) : Decidable (OnMem m a s n c) := by unfold OnMem; infer_instance

theorem OnMem.c0 {m : List (List Int)} {a s n c : Int} (h : OnMem m a s n c) : 0 ≤ c := by obtain ⟨_, _, _, _, _, _⟩ := h; omega

theorem l2Window_is {m : List (List Int)} {a s n c : Int} (h : m.length ≤ maxLen) (hz : ∀ z ∈ m, z.length ≤ maxLen) : Ter (fun k => spec_l2Window.f k m a s n c) (decide (IsMem m ∧ OnMem m a s n c)) := by
  have h' := h
  rw [maxLen_] at h'
  unfold spec_l2Window.f
  refine (l2Memory_is h).bind ?_
  by_cases hm : IsMem m
  · refine Ter.ifp (by simpa using hm) ?_
    rw [in_is, w64 (by omega) (by omega)]
    refine Ter.bind (F := fun _ => some _) (Ter.ret _) (Ter.succ ?_)
    simp only [spec_l2Window.j0]
    by_cases ha : 0 ≤ a ∧ a ≤ (m.length : Int) - 1
    · refine Ter.ifn (by simp [ha]) (Ter.ifp (by omega) (Ter.ifp (by omega) ?_))
      obtain ⟨i, rfl⟩ : ∃ i : Nat, a = (i : Int) := ⟨a.toNat, by omega⟩
      have hi : i < m.length := by omega
      rw [show rd_L1 m (i : Int) = m[i] from getD_at hi]
      simp only [in_is, Option.bind_some]
      have hl := hm.at hi
      by_cases h1 : 0 ≤ s ∧ s ≤ (m[i].length : Int)
      · rw [w64 (by omega) (by omega)]
        refine Ter.ifp (by simpa using h1) ?_
        by_cases h2 : 0 ≤ c ∧ c ≤ (m[i].length : Int) - s
        · refine Ter.ifp (by simpa using h2) ((Ter.ret _).eq ?_)
          simp only [decide_eq_decide]
          unfold OnMem
          rw [getD_at hi]
          constructor
          · intro h3; exact ⟨hm, by omega⟩
          · intro h3; obtain ⟨_, h4⟩ := h3; omega
        · refine Ter.ifn (by simpa using h2) ((Ter.ret _).eq ?_)
          symm
          simp only [decide_eq_false_iff_not]
          unfold OnMem
          rw [getD_at hi]
          rintro ⟨_, h4⟩; omega
      · refine Ter.ifn (by simpa using h1) ((Ter.ret _).eq ?_)
        symm
        simp only [decide_eq_false_iff_not]
        unfold OnMem
        rw [getD_at hi]
        rintro ⟨_, h4⟩; omega
    · refine Ter.ifp (by simp only [Bool.not_eq_true', decide_eq_false_iff_not]; omega) ((Ter.ret _).eq ?_)
      symm
      simp only [decide_eq_false_iff_not]
      unfold OnMem
      rintro ⟨_, h4⟩; omega
  · refine Ter.ifn (by simpa using hm) (Ter.succ ?_)
    simp only [spec_l2Window.j0]
    simp only [if_true]
    refine (Ter.ret _).eq ?_
    symm
    simp only [decide_eq_false_iff_not]
    exact fun h1 => hm h1.1

theorem hasWindow_is {m : List (List Int)} {a s n c : Int} (hm : IsMem m) (hs : wf64 s) (hc : wf64 c) : impl_Memory_hasWindow.f m a s n c = some (decide (OnMem m a s n c)) := by
  have hml := hm.1
  unfold impl_Memory_hasWindow.f impl_Memory_hasArray.f
  simp only [within_is, Option.bind_some, decide_eq_true_eq]
  rw [w64 (n := (m.length : Int) - 1) (by omega) (by omega)]
  by_cases ha : 0 ≤ a ∧ a ≤ (m.length : Int) - 1
  · rw [if_pos ha]
    obtain ⟨i, rfl⟩ : ∃ i : Nat, a = (i : Int) := ⟨a.toNat, by omega⟩
    have hi : i < m.length := by omega
    have hl := hm.at hi
    rw [show rd_L1 m (i : Int) = m[i] from getD_at hi]
    by_cases h1 : 0 ≤ c ∧ c ≤ 64
    · rw [if_pos h1]
      by_cases h2 : 0 ≤ n ∧ n ≤ c
      · rw [if_pos h2, if_pos (by omega), if_pos (by omega), w64 (by omega) (by omega)]
        congr 1
        simp only [decide_eq_decide]
        unfold OnMem
        rw [getD_at hi]
        omega
      · rw [if_neg h2]
        congr 1
        symm
        simp only [decide_eq_false_iff_not]
        unfold OnMem
        rw [getD_at hi]
        omega
    · rw [if_neg h1]
      congr 1
      symm
      simp only [decide_eq_false_iff_not]
      unfold OnMem
      rw [getD_at hi]
      omega
  · rw [if_neg ha]
    congr 1
    symm
    simp only [decide_eq_false_iff_not]
    unfold OnMem
    omega

theorem l2Own_is {m : List (List Int)} (h : IsMem m) : Ter (fun k => spec_l2Own.f k m) m := by
  have hml := h.1
  unfold spec_l2Own.f
  have key := down_ (Q := fun i => Ter (fun k => spec_l2Own.l0 k (i : Int) m (m.take i)) m) m.length
    (Ter.succ (by simp only [spec_l2Own.l0]; exact Ter.ifn (by omega) ((Ter.ret _).eq (List.take_length))))
    (fun i hi ih => by
      refine Ter.succ ?_
      simp only [spec_l2Own.l0]
      have hl := h.at hi
      rw [show rd_L1 m (i : Int) = m[i] from getD_at hi]
      refine Ter.ifp (by omega) (Ter.bind (F := fun _ => some _) (Ter.ret _) (Ter.ifp (by omega) (Ter.ifp (by simp; omega) (Ter.ifp (by simp; omega) ?_))))
      rw [w64s hi (by omega), List.nil_append, take_one hi]
      exact ih) 0 (by omega)
  simpa using key

theorem memOwn_is {m : List (List Int)} (h : IsMem m) : Ter (fun k => impl_Memory_own.f k m) m := by
  have hml := h.1
  unfold impl_Memory_own.f
  have key := down_ (Q := fun i => Ter (fun k => impl_Memory_own.l0 k m (m.length : Int) (i : Int) (m.take i)) m) m.length
    (Ter.succ (by simp only [impl_Memory_own.l0]; exact Ter.ifn (by omega) ((Ter.ret _).eq (List.take_length))))
    (fun i hi ih => by
      refine Ter.succ ?_
      simp only [impl_Memory_own.l0]
      have hl := h.at hi
      rw [show rd_L1 m (i : Int) = m[i] from getD_at hi]
      refine Ter.ifp (by omega) (Ter.ifp (by omega) (Ter.ifp (by omega) ?_))
      refine Ter.bind (F := fun _ => slices_Clone_byte.f _) (Ter.const (by unfold slices_Clone_byte.f; rw [if_pos (by omega)])) (Ter.ifp (by simp; omega) ?_)
      rw [w64s hi (by omega), take_one hi]
      exact ih) 0 (by omega)
  simpa using key
end Go.Proofs.Ytmkcbbbknbahgaa.P
namespace Go.Proofs.Ytmkcbbbknbahgaa.P
open Go.RowKit Go.Proofs.YtmkcbbbknbahgaaW.PrintWords Go.Proofs.YtmkcbbbknbahgaaW.PrintLast Go.Proofs.YtmkcbbbknbahgaaW.PrintMore
set_option linter.unusedVariables false

def OnW (m : List (List Int)) (w : S32) : Prop := OnMem m w.f0 w.f1 w.f2 w.f3

instance (m : List (List Int)) (w : S32) : Decidable (OnW m w) := by unfold OnW; infer_instance

def AreOn (m : List (List Int)) (ws : List S32) : Prop := IsMem m ∧ ∀ w ∈ ws, OnW m w

instance (m : List (List Int)) (ws : List S32) : Decidable (AreOn m ws) := by unfold AreOn; infer_instance

theorem areOn_is {m : List (List Int)} {ws : List S32} (h : m.length ≤ maxLen) (hw : ∀ w ∈ ws, wfW w) : Ter (fun k => impl_areOn.f k m ws) (decide (AreOn m ws)) := by
  unfold impl_areOn.f
  refine (isMemory_is h).bind ((Ter.ret _).eq ?_)
  by_cases hm : IsMem m
  · simp only [hm, decide_true, Bool.true_and]
    rw [Bool.eq_iff_iff]
    simp only [List.all_eq_true, decide_eq_true_eq]
    constructor
    · intro h1
      refine ⟨hm, fun w hw1 => ?_⟩
      have := h1 w hw1
      unfold hasW at this
      rw [hasWindow_is hm (hw w hw1).2.1 (hw w hw1).2.2.2] at this
      simpa [OnW] using this
    · intro h1 w hw1
      unfold hasW
      rw [hasWindow_is hm (hw w hw1).2.1 (hw w hw1).2.2.2]
      simpa [OnW] using h1.2 w hw1
  · simp only [hm, decide_false, Bool.false_and]
    symm
    simp only [decide_eq_false_iff_not]
    exact fun h1 => hm h1.1
end Go.Proofs.Ytmkcbbbknbahgaa.P
namespace Go.Proofs.Ytmkcbbbknbahgaa.P
open Go.RowKit Go.Proofs.YtmkcbbbknbahgaaW.PrintWords Go.Proofs.YtmkcbbbknbahgaaW.PrintLast Go.Proofs.YtmkcbbbknbahgaaW.PrintMore
set_option linter.unusedVariables false

def Rising (l : List Int) : Prop := ∀ i, i + 1 < l.length → l.getD i 0 ≤ l.getD (i + 1) 0

instance (l : List Int) : Decidable (Rising l) := decidable_of_iff (∀ i, i < l.length → i + 1 < l.length → l.getD i 0 ≤ l.getD (i + 1) 0) ⟨fun h i hi => h i (by omega) hi, fun h i _ hi => h i hi⟩

def IsArena (m : List (List Int)) (a s n c u : Int) (l : List Int) : Prop := IsMem m ∧ OnMem m a s n c ∧ 0 ≤ u ∧ u ≤ n ∧ l.length ≤ 8 ∧ (∀ x ∈ l, 0 ≤ x ∧ x ≤ u) ∧ Rising l

instance (m : List (List Int)) (a s n c u : Int) (l : List Int) : Decidable (IsArena m a s n c u l) := by unfold IsArena; infer_instance

theorem rdn {l : List Int} (i : Nat) : rd l (i : Int) = l.getD i 0 := by unfold rd; rw [Int.toNat_natCast]

theorem getD_get {l : List Int} {i : Nat} (h : i < l.length) : l.getD i 0 = l[i] := by rw [List.getD_eq_getElem?_getD, List.getElem?_eq_getElem h]; rfl

theorem l8Arena_is {m : List (List Int)} {a s n c u : Int} {l : List Int} (h : m.length ≤ maxLen) (hz : ∀ z ∈ m, z.length ≤ maxLen) (hl : l.length ≤ maxLen) : Ter (fun k => spec_l8Arena.f k m a s n c u l) (decide (IsArena m a s n c u l)) := by
  rw [maxLen_] at hl
  unfold spec_l8Arena.f
  refine (l2Window_is h hz).bind ?_
  by_cases h1 : IsMem m ∧ OnMem m a s n c
  · refine Ter.ifp (by simpa using h1) ?_
    simp only [in_is, Option.bind_some]
    by_cases h2 : 0 ≤ u ∧ u ≤ n
    · refine Ter.ifp (by simpa using h2) (Ter.succ ?_)
      simp only [spec_l8Arena.j0]
      by_cases h3 : (l.length : Int) > 8
      · refine Ter.ifp (by simpa using h3) ((Ter.ret _).eq ?_)
        symm
        simp only [decide_eq_false_iff_not]
        intro h4
        have := h4.2.2.2.2.1
        omega
      · refine Ter.ifn (by simpa using h3) ?_
        have key := down_ (Q := fun i => (∀ j, j < i → ∀ hj : j < l.length, 0 ≤ l[j] ∧ l[j] ≤ u) → (∀ j, j + 1 < i → j + 1 < l.length → l.getD j 0 ≤ l.getD (j + 1) 0) → Ter (fun k => spec_l8Arena.l0 k (i : Int) m a s n c u l) (decide (IsArena m a s n c u l))) l.length
          (fun ok1 ok2 => by
            refine Ter.succ ?_
            simp only [spec_l8Arena.l0]
            refine Ter.ifn (by omega) ((Ter.ret _).eq ?_)
            symm
            simp only [decide_eq_true_eq]
            refine ⟨h1.1, h1.2, h2.1, h2.2, by omega, fun x hx => ?_, fun i hi => ok2 i hi hi⟩
            obtain ⟨j, hj, rfl⟩ := List.getElem_of_mem hx
            exact ok1 j hj hj)
          (fun i hi ih ok1 ok2 => by
            refine Ter.succ ?_
            simp only [spec_l8Arena.l0, in_is, Option.bind_some]
            refine Ter.ifp (by omega) (Ter.ifp (by omega) ?_)
            rw [rd_at hi]
            by_cases h4 : 0 ≤ l[i] ∧ l[i] ≤ u
            · refine Ter.ifp (by simpa using h4) ?_
              have ok1' : ∀ j, j < i + 1 → ∀ hj : j < l.length, 0 ≤ l[j] ∧ l[j] ≤ u := fun j hj hj2 => by
                by_cases hji : j = i
                · subst hji; exact h4
                · exact ok1 j (by omega) hj2
              by_cases h5 : (i : Int) > 0
              · rw [w64 (n := (i : Int) - 1) (by omega) (by omega)]
                refine Ter.ifp h5 (Ter.ifp (by omega) (Ter.ifp (by omega) ?_))
                obtain ⟨p, rfl⟩ : ∃ p, i = p + 1 := ⟨i - 1, by omega⟩
                have e : ((p + 1 : Nat) : Int) - 1 = (p : Int) := by omega
                rw [e, rd_at (xs := l) (i := p) (by omega)]
                by_cases h6 : l[p] > l[p + 1]
                · refine Ter.ifp h6 ((Ter.ret _).eq ?_)
                  symm
                  simp only [decide_eq_false_iff_not]
                  intro h7
                  have := h7.2.2.2.2.2.2 p hi
                  rw [getD_get hi, getD_get (by omega)] at this
                  omega
                · refine Ter.ifn h6 ?_
                  rw [w64s hi (by omega)]
                  refine ih ok1' (fun j hj hj2 => ?_)
                  by_cases hjp : j = p
                  · subst hjp; rw [getD_get hj2, getD_get (by omega)]; omega
                  · exact ok2 j (by omega) hj2
              · refine Ter.ifn h5 ?_
                rw [w64s hi (by omega)]
                exact ih ok1' (fun j hj hj2 => by omega)
            · refine Ter.ifn (by simpa using h4) ((Ter.ret _).eq ?_)
              symm
              simp only [decide_eq_false_iff_not]
              intro h7
              exact h4 (h7.2.2.2.2.2.1 _ (List.getElem_mem hi))) 0 (by omega)
        exact key (fun j hj => by omega) (fun j hj => by omega)
    · refine Ter.ifn (by simpa using h2) (Ter.succ ?_)
      simp only [spec_l8Arena.j0, if_true]
      refine (Ter.ret _).eq ?_
      symm
      simp only [decide_eq_false_iff_not]
      exact fun h3 => h2 ⟨h3.2.2.1, h3.2.2.2.1⟩
  · refine Ter.ifn (by simpa using h1) (Ter.succ ?_)
    simp only [spec_l8Arena.j0, if_true]
    refine (Ter.ret _).eq ?_
    symm
    simp only [decide_eq_false_iff_not]
    exact fun h3 => h1 ⟨h3.1, h3.2.1⟩

theorem less_is (a b : Int) : cmp_Less_int.f a b = some (decide (a < b)) := by simp [cmp_Less_int.f, cmp_isNaN_int.f]

theorem allWithin_is {l : List Int} {a b : Int} (hl : l.length ≤ maxLen) : Ter (fun k => impl_allWithin.f k l a b) (decide (∀ x ∈ l, a ≤ x ∧ x ≤ b)) := by
  rw [maxLen_] at hl
  unfold impl_allWithin.f
  have key := down_ (Q := fun i => (∀ j, j < i → ∀ hj : j < l.length, a ≤ l[j] ∧ l[j] ≤ b) → Ter (fun k => impl_allWithin.l0 k a b l (l.length : Int) (i : Int)) (decide (∀ x ∈ l, a ≤ x ∧ x ≤ b))) l.length
    (fun ok => by
      refine Ter.succ ?_
      simp only [impl_allWithin.l0]
      refine Ter.ifn (by omega) ((Ter.ret _).eq ?_)
      symm
      simp only [decide_eq_true_eq]
      intro x hx
      obtain ⟨j, hj, rfl⟩ := List.getElem_of_mem hx
      exact ok j hj hj)
    (fun i hi ih ok => by
      refine Ter.succ ?_
      simp only [impl_allWithin.l0, within_is, Option.bind_some]
      refine Ter.ifp (by omega) (Ter.ifp (by omega) (Ter.ifp (by omega) ?_))
      rw [rd_at hi]
      by_cases h4 : a ≤ l[i] ∧ l[i] ≤ b
      · refine Ter.ifp (by simpa using h4) ?_
        rw [w64s hi (by omega)]
        exact ih (fun j hj hj2 => by
          by_cases hji : j = i
          · subst hji; exact h4
          · exact ok j (by omega) hj2)
      · refine Ter.ifn (by simpa using h4) ((Ter.ret _).eq ?_)
        symm
        simp only [decide_eq_false_iff_not]
        exact fun h => h4 (h _ (List.getElem_mem hi))) 0 (by omega)
  exact key (fun j hj => by omega)

theorem isSorted_is {l : List Int} (hl : l.length ≤ maxLen) : Ter (fun k => slices_IsSorted_int_int.f k l) (decide (Rising l)) := by
  rw [maxLen_] at hl
  unfold slices_IsSorted_int_int.f
  rw [w64 (by omega) (by omega)]
  have key : ∀ (i : Nat), i < l.length → (∀ j, i ≤ j → j + 1 < l.length → l.getD j 0 ≤ l.getD (j + 1) 0) → Ter (fun k => slices_IsSorted_int_int.l0 k l (i : Int)) (decide (Rising l)) := by
    intro i
    induction i with
    | zero =>
      intro h ok
      refine Ter.succ ?_
      simp only [slices_IsSorted_int_int.l0]
      refine Ter.ifn (by omega) ((Ter.ret _).eq ?_)
      symm
      simp only [decide_eq_true_eq]
      exact fun j hj => ok j (by omega) hj
    | succ p ih =>
      intro h ok
      refine Ter.succ ?_
      simp only [slices_IsSorted_int_int.l0, less_is, Option.bind_some]
      have e : ((p + 1 : Nat) : Int) - 1 = (p : Int) := by omega
      rw [w64 (by omega) (by omega), e]
      refine Ter.ifp (by omega) (Ter.ifp (by omega) (Ter.ifp (by omega) (Ter.ifp (by omega) (Ter.ifp (by omega) ?_))))
      rw [rdn, rdn]
      by_cases h6 : l.getD (p + 1) 0 < l.getD p 0
      · refine Ter.ifp (by simpa using h6) ((Ter.ret _).eq ?_)
        symm
        simp only [decide_eq_false_iff_not]
        intro h7
        have := h7 p h
        omega
      · refine Ter.ifn (by simpa using h6) ?_
        refine ih (by omega) (fun j hj hj2 => ?_)
        by_cases hjp : j = p
        · subst hjp; omega
        · exact ok j (by omega) hj2
  rcases Nat.eq_zero_or_pos l.length with h0 | h0
  · refine Ter.succ ?_
    simp only [slices_IsSorted_int_int.l0]
    refine Ter.ifn (by omega) ((Ter.ret _).eq ?_)
    symm
    simp only [decide_eq_true_eq]
    exact fun j hj => by omega
  · have e : (l.length : Int) - 1 = ((l.length - 1 : Nat) : Int) := by omega
    rw [e]
    exact key _ (by omega) (fun j hj hj2 => by omega)

theorem isArena_is {m : List (List Int)} {a s n c u : Int} {l : List Int} (h : m.length ≤ maxLen) (hl : l.length ≤ maxLen) (hw : wfW ⟨a, s, n, c⟩) : Ter (fun k => impl_IsArena.f k m a s n c u l) (decide (IsArena m a s n c u l)) := by
  have hl' := hl
  rw [maxLen_] at hl'
  unfold impl_IsArena.f
  refine (areOn_is h (fun w hw1 => by simp only [List.mem_singleton] at hw1; subst hw1; exact hw)).bind ?_
  by_cases h1 : AreOn m [⟨a, s, n, c⟩]
  · refine Ter.ifp (by simpa using h1) ?_
    have h1' : IsMem m ∧ OnMem m a s n c := ⟨h1.1, h1.2 _ (List.mem_singleton.2 rfl)⟩
    simp only [within_is, Option.bind_some]
    by_cases h2 : 0 ≤ u ∧ u ≤ n
    · refine Ter.ifp (by simpa using h2) (Ter.succ ?_)
      simp only [impl_IsArena.j0]
      by_cases h3 : (l.length : Int) > 8
      · refine Ter.ifp (by simpa using h3) ((Ter.ret _).eq ?_)
        symm
        simp only [decide_eq_false_iff_not]
        intro h4
        have := h4.2.2.2.2.1
        omega
      · refine Ter.ifn (by simpa using h3) ((allWithin_is hl).bind ?_)
        by_cases h4 : ∀ x ∈ l, 0 ≤ x ∧ x ≤ u
        · refine Ter.ifp (by simpa using h4) ((isSorted_is hl).bind ((Ter.ret _).eq ?_))
          simp only [decide_eq_decide]
          constructor
          · intro h5; exact ⟨h1'.1, h1'.2, h2.1, h2.2, by omega, h4, h5⟩
          · intro h5; exact h5.2.2.2.2.2.2
        · refine Ter.ifn (by simpa using h4) ((Ter.ret _).eq ?_)
          symm
          simp only [decide_eq_false_iff_not]
          exact fun h5 => h4 h5.2.2.2.2.2.1
    · refine Ter.ifn (by simpa using h2) (Ter.succ ?_)
      simp only [impl_IsArena.j0, if_true]
      refine (Ter.ret _).eq ?_
      symm
      simp only [decide_eq_false_iff_not]
      exact fun h3 => h2 ⟨h3.2.2.1, h3.2.2.2.1⟩
  · refine Ter.ifn (by simpa using h1) (Ter.succ ?_)
    simp only [impl_IsArena.j0, if_true]
    refine (Ter.ret _).eq ?_
    symm
    simp only [decide_eq_false_iff_not]
    exact fun h3 => h1 ⟨h3.1, fun w hw1 => by simp only [List.mem_singleton] at hw1; subst hw1; exact h3.2.1⟩

theorem l1Own_is {l : List Int} (h : Small l) : spec_l1Own.f l = some l := by
  have := h.le
  simp only [spec_l1Own.f, Option.bind_some, List.nil_append, List.length_nil]
  rw [if_pos (by omega)]

theorem l8Own_is {m : List (List Int)} {a s n c u v : Int} {l : List Int} (h : IsMem m) (hl : Small l) : Ter (fun k => spec_l8Own.f k m a s n c u l v) (m, a, s, n, c, v, l) := by
  unfold spec_l8Own.f
  exact (l2Own_is h).bind (Ter.bind (F := fun _ => spec_l1Own.f l) (Ter.const (l1Own_is hl)) (Ter.ret _))

theorem arenaOwn_is {m : List (List Int)} {a s n c u : Int} {l : List Int} (h : IsMem m) (hl : Small l) : Ter (fun k => impl_Arena_own.f k m a s n c u l) (m, a, s, n, c, u, l) := by
  unfold impl_Arena_own.f
  have := hl.le
  exact (memOwn_is h).bind (Ter.bind (F := fun _ => slices_Clone_int.f l) (a := l) (Ter.const (by unfold slices_Clone_int.f; rw [if_pos (by omega)])) (Ter.ret _))
end Go.Proofs.Ytmkcbbbknbahgaa.P
namespace Go.Proofs.Ytmkcbbbknbahgaa.P
open Go.RowKit Go.Proofs.YtmkcbbbknbahgaaW.PrintWords Go.Proofs.YtmkcbbbknbahgaaW.PrintLast Go.Proofs.YtmkcbbbknbahgaaW.PrintMore
set_option linter.unusedVariables false

/-- What is asked is valid. -/
def OkAsk (q : S74) : Prop := 0 ≤ q.f0 ∧ 1 ≤ q.f1 ∧ q.f1 ≤ 16

theorem askedOk_is (q : S74) : askedOk q = true ↔ OkAsk q := by
  unfold askedOk OkAsk
  simp only [Bool.and_eq_true, decide_eq_true_eq]

/-- The beginning, without wraps. -/
def begN (u al : Int) : Int := (u + al - 1) / al * al

theorem begN_le {u al : Int} (h0 : 0 ≤ u) (h1 : 1 ≤ al) : u ≤ begN u al ∧ begN u al ≤ u + al - 1 := by
  unfold begN
  have h2 := Int.ediv_mul_add_emod (u + al - 1) al
  have h3 := Int.emod_nonneg (u + al - 1) (show al ≠ 0 by omega)
  have h4 := Int.emod_lt_of_pos (u + al - 1) (show 0 < al by omega)
  omega

theorem beginF_is {u al : Int} (h0 : 0 ≤ u) (h1 : u ≤ 64) (h2 : 1 ≤ al) (h3 : al ≤ 16) : beginF u al = begN u al := by
  have h4 := begN_le h0 h2
  unfold beginF
  rw [w64 (n := u + al) (by omega) (by omega), w64 (n := u + al - 1) (by omega) (by omega), Int.tdiv_eq_ediv_of_nonneg (by omega)]
  have h5 : 0 ≤ (u + al - 1) / al := Int.ediv_nonneg (by omega) (by omega)
  have h6 : (u + al - 1) / al ≤ u + al - 1 := Int.ediv_le_self _ (by omega)
  rw [w64 (n := (u + al - 1) / al) (by omega) (by omega)]
  exact w64 (by unfold begN at h4; omega) (by unfold begN at h4; omega)

theorem areAsked_is {m : List (List Int)} {a s n c u : Int} {l : List Int} {ask : List S74} (h : m.length ≤ maxLen) (hl : l.length ≤ maxLen) (hw : wfW ⟨a, s, n, c⟩) :
    ∃ b, Ter (fun k => impl_areAsked.f k m a s n c u l ask) b ∧ (b = true ↔ IsArena m a s n c u l ∧ ask.length ≤ 6 ∧ ∀ q ∈ ask, OkAsk q) := by
  refine ⟨_, (isArena_is h hl hw).bind (Ter.ret _), ?_⟩
  simp only [Bool.and_eq_true, decide_eq_true_eq, List.all_eq_true, askedOk_is]
  constructor
  · rintro ⟨⟨h1, h2⟩, h3⟩; exact ⟨h1, by omega, h3⟩
  · rintro ⟨h1, h2, h3⟩; exact ⟨⟨h1, by omega⟩, h3⟩
end Go.Proofs.Ytmkcbbbknbahgaa.P
namespace Go.Proofs.Ytmkcbbbknbahgaa.P
open Go.RowKit Go.Proofs.YtmkcbbbknbahgaaW.PrintWords Go.Proofs.YtmkcbbbknbahgaaW.PrintLast Go.Proofs.YtmkcbbbknbahgaaW.PrintMore
set_option linter.unusedVariables false

instance (q : S74) : Decidable (OkAsk q) := by unfold OkAsk; infer_instance

theorem l8Asked_is (q0 q1 : Int) : spec_l8Asked.f q0 q1 = some (decide (OkAsk ⟨q0, q1⟩)) := by
  unfold spec_l8Asked.f
  by_cases h0 : q0 ≥ 0
  · rw [if_pos h0, in_is]
    exact congrArg some (decide_eq_decide.2 ⟨fun h => ⟨h0, h⟩, fun h => h.2⟩)
  · rw [if_neg h0, decide_eq_false (show ¬ OkAsk ⟨q0, q1⟩ from fun h => h0 h.1)]

theorem IsArena.bounds {m : List (List Int)} {a s n c u : Int} {l : List Int} (h : IsArena m a s n c u l) : 0 ≤ s ∧ s ≤ 64 ∧ 0 ≤ n ∧ n ≤ 64 ∧ 0 ≤ u ∧ u ≤ n ∧ 0 ≤ a ∧ a < 16 := by
  obtain ⟨g1, ⟨p1, p2, p3, p4, p5, p6⟩, g3, g4, _⟩ := h
  obtain ⟨ai, rfl⟩ : ∃ ai : Nat, a = (ai : Int) := ⟨a.toNat, by omega⟩
  rw [getD_at (show ai < m.length by omega)] at p4
  have := g1.at (show ai < m.length by omega)
  have := g1.1
  omega

theorem specGive_is {m : List (List Int)} {a s n c u q0 q1 : Int} {l : List Int} (h : m.length ≤ maxLen) (hz : ∀ z ∈ m, z.length ≤ maxLen) (hl : l.length ≤ maxLen) (hs : IsMem m → Small l) :
    Ter (fun k => spec_Give.f k m a s n c u l q0 q1) (if IsArena m a s n c u l ∧ OkAsk ⟨q0, q1⟩ ∧ q0 ≤ n - begN u q1 then (m, a, s, n, c, begN u q1 + q0, l, a, s + begN u q1, q0, q0, true) else ([], 0, 0, 0, 0, 0, [], 0, 0, 0, 0, false)) := by
  unfold spec_Give.f
  refine (l8Arena_is h hz hl).bind ?_
  by_cases hA : IsArena m a s n c u l
  · refine Ter.ifp (by simpa using hA) ?_
    simp only [l8Asked_is, Option.bind_some]
    by_cases hq : OkAsk ⟨q0, q1⟩
    · refine Ter.ifp (by simpa using hq) ?_
      obtain ⟨b1, b2, b3, b4, b5, b6, b7, b8⟩ := hA.bounds
      obtain ⟨c1, c2, c3⟩ := hq
      simp only [] at c1 c2 c3
      have hb := begN_le b5 c2
      have hF : spec_l8First.f u q1 = some (begN u q1) := by
        unfold spec_l8First.f
        rw [if_neg (by omega)]
        exact congrArg some (beginF_is b5 (by omega) c2 c3)
      unfold spec_l8Fits.f
      simp only [hF, Option.bind_some]
      rw [w64 (n := n - begN u q1) (by omega) (by omega)]
      by_cases hc : q0 ≤ n - begN u q1
      · refine Ter.eq ?_ (if_pos (show IsArena m a s n c u l ∧ OkAsk ⟨q0, q1⟩ ∧ q0 ≤ n - begN u q1 from ⟨hA, ⟨c1, c2, c3⟩, hc⟩)).symm
        simp only [if_pos (show begN u q1 ≤ n by omega), Option.bind_some, decide_eq_true hc, Bool.not_true]
        refine Ter.succ ?_
        simp only [spec_Give.j0, hF, Option.bind_some]
        refine Ter.ifn (by simp) ((l8Own_is hA.1 (hs hA.1)).bind ?_)
        simp only [spec_l2Slice.f, Option.bind_some]
        rw [w64 (n := begN u q1 + q0) (by omega) (by omega), w64 (n := s + begN u q1) (by omega) (by omega), w64 (n := begN u q1 + q0 - begN u q1) (by omega) (by omega), show begN u q1 + q0 - begN u q1 = q0 by omega]
        exact Ter.ret _
      · refine Ter.eq ?_ (if_neg (show ¬ (IsArena m a s n c u l ∧ OkAsk ⟨q0, q1⟩ ∧ q0 ≤ n - begN u q1) from fun h => hc h.2.2)).symm
        by_cases h2 : begN u q1 ≤ n
        · simp only [if_pos h2, Option.bind_some, decide_eq_false hc, Bool.not_false]
          refine Ter.succ ?_
          simp only [spec_Give.j0]
          exact Ter.ifp (by first | rfl | trivial) (Ter.ret _)
        · simp only [if_neg h2, Option.bind_some, Bool.not_false]
          refine Ter.succ ?_
          simp only [spec_Give.j0]
          exact Ter.ifp (by first | rfl | trivial) (Ter.ret _)
    · rw [if_neg (fun h => hq h.2.1)]
      refine Ter.ifn (by simpa using hq) (Ter.succ ?_)
      simp only [spec_Give.j0]
      exact Ter.ifp (by first | rfl | trivial) (Ter.ret _)
  · rw [if_neg (fun h => hA h.1)]
    refine Ter.ifn (by simpa using hA) (Ter.succ ?_)
    simp only [spec_Give.j0]
    exact Ter.ifp (by first | rfl | trivial) (Ter.ret _)

/-- What GiveAll answers. -/
def givesOf (m : List (List Int)) (a s n c u : Int) (l : List Int) (ask : List S74) : List (List Int) × Int × Int × Int × Int × Int × List Int × List S32 × Bool :=
  if (giveRun a s n ask u []).2.2 = true then (m, a, s, n, c, (giveRun a s n ask u []).1, l, (giveRun a s n ask u []).2.1, true) else ([], 0, 0, 0, 0, 0, [], [], false)

theorem implGiveAll_is {m : List (List Int)} {a s n c u : Int} {l : List Int} {ask : List S74} (h : m.length ≤ maxLen) (hl : l.length ≤ maxLen) (hs : Small l) (hw : wfW ⟨a, s, n, c⟩) (hk : ask.length ≤ 1048576) :
    Ter (fun k => impl_GiveAll.f k m a s n c u l ask) (if IsArena m a s n c u l ∧ ask.length ≤ 6 ∧ ∀ q ∈ ask, OkAsk q then givesOf m a s n c u l ask else ([], 0, 0, 0, 0, 0, [], [], false)) := by
  unfold impl_GiveAll.f
  obtain ⟨b, hb, hb'⟩ := areAsked_is (u := u) (ask := ask) h hl hw
  refine hb.bind ?_
  cases b with
  | false =>
    rw [if_neg (fun h => by have := hb'.2 h; cases this)]
    exact Ter.ifn (by simp) (Ter.ret _)
  | true =>
    obtain ⟨hA, h6, hq⟩ := hb'.1 rfl
    rw [if_pos ⟨hA, h6, hq⟩]
    refine Ter.ifp rfl ((arenaOwn_is hA.1 hs).bind (Ter.ifp ⟨fun q hx => by have := (hq q hx).2.1; omega, hk⟩ ?_))
    unfold givesOf
    by_cases hok : (giveRun a s n ask u []).2.2 = true
    · exact (Ter.ifp hok (Ter.ret _)).eq (if_pos hok).symm
    · exact (Ter.ifn hok (Ter.ret _)).eq (if_neg hok).symm
end Go.Proofs.Ytmkcbbbknbahgaa.P
namespace Go.Proofs.Ytmkcbbbknbahgaa.P
open Go.RowKit Go.Proofs.YtmkcbbbknbahgaaW.PrintWords Go.Proofs.YtmkcbbbknbahgaaW.PrintLast Go.Proofs.YtmkcbbbknbahgaaW.PrintMore
set_option linter.unusedVariables false

theorem toAsked_is (q0 q1 : Int) : laws_toAsked.f q0 q1 = some (q0, q1) := by simp [laws_toAsked.f]

theorem implGive_is {m : List (List Int)} {a s n c u q0 q1 : Int} {l : List Int} (h : m.length ≤ maxLen) (hl : l.length ≤ maxLen) (hs : Small l) (hw : wfW ⟨a, s, n, c⟩) :
    Ter (fun k => impl_Give.f k m a s n c u l q0 q1) (if IsArena m a s n c u l ∧ OkAsk ⟨q0, q1⟩ ∧ q0 ≤ n - begN u q1 then (m, a, s, n, c, begN u q1 + q0, l, a, s + begN u q1, q0, q0, true) else ([], 0, 0, 0, 0, 0, [], 0, 0, 0, 0, false)) := by
  unfold impl_Give.f
  have hG := implGiveAll_is (u := u) (ask := [(⟨q0, q1⟩ : S74)]) h hl hs hw (by simp)
  by_cases hA : IsArena m a s n c u l ∧ OkAsk ⟨q0, q1⟩
  · rw [if_pos (show IsArena m a s n c u l ∧ [(⟨q0, q1⟩ : S74)].length ≤ 6 ∧ ∀ q ∈ [(⟨q0, q1⟩ : S74)], OkAsk q from ⟨hA.1, by simp, by intro q hq; rw [List.mem_singleton.1 hq]; exact hA.2⟩)] at hG
    obtain ⟨b1, b2, b3, b4, b5, b6, b7, b8⟩ := hA.1.bounds
    have hqi : 0 ≤ q0 ∧ 1 ≤ q1 ∧ q1 ≤ 16 := hA.2
    have hbn := begN_le b5 hqi.2.1
    have hbF := beginF_is b5 (by omega) hqi.2.1 hqi.2.2
    unfold givesOf giveRun giveRun at hG
    simp only [hbF] at hG
    rw [w64 (n := n - begN u q1) (by omega) (by omega)] at hG
    by_cases hc : q0 > n - begN u q1
    · simp only [if_pos hc, Bool.false_eq_true, if_false] at hG
      rw [if_neg (fun hh => by have := hh.2.2; omega)]
      exact hG.bind (Ter.ifn (by simp) (Ter.ret _))
    · simp only [if_neg hc, if_true] at hG
      rw [w64 (n := begN u q1 + q0) (by omega) (by omega), w64 (n := s + begN u q1) (by omega) (by omega)] at hG
      rw [if_pos ⟨hA.1, hA.2, by omega⟩]
      exact hG.bind (Ter.ifp rfl (Ter.ifp (by simp) (Ter.ret _)))
  · rw [if_neg (fun hh => hA ⟨hh.1, hh.2.2 _ (by simp)⟩)] at hG
    rw [if_neg (fun hh => hA ⟨hh.1, hh.2.1⟩)]
    exact hG.bind (Ter.ifn (by simp) (Ter.ret _))

theorem FnExactGive.pure : FnExactGive.Pure := by
  intro m a s n c u l q0 q1 ⟨hm1, hm2⟩ ha hs hn hc hu ⟨hl1, hl2⟩ hq0 hq1
  have hm2' : ∀ z ∈ m, z.length ≤ maxLen := fun z hz => (hm2 z hz).1
  obtain ⟨r, hr, h⟩ := szArena_is (a := a) (s := s) (n := n) (c := c) (u := u) ⟨hm1, hm2'⟩ hl1 (t := 1048576) (by omega) (by omega)
  rcases h with h | ⟨h, h', hs1, hs2, hs3⟩
  · obtain ⟨K, hK⟩ := hr
    exact .inr ⟨K, r, hK K (Nat.le_refl _), h⟩
  · have hw : wfW ⟨a, s, n, c⟩ := ⟨wf64_of ha, wf64_of hs, wf64_of hn, wf64_of hc⟩
    have hto := toArena_is (a := a) (s := s) (n := n) (c := c) (u := u) hs1 hs2 hs3
    have spec := specGive_is (a := a) (s := s) (n := n) (c := c) (u := u) (q0 := q0) (q1 := q1) hm1 hm2' hl1 (fun _ => hs3)
    have impl := implGive_is (a := a) (s := s) (n := n) (c := c) (u := u) (q0 := q0) (q1 := q1) hm1 hl1 hs3 hw
    obtain ⟨m1, a1, s1, n1, c1, u1, l2, x0, x1, x2, x3, b1, e, hm1', hmz, hl1'⟩ : ∃ m1 a1 s1 n1 c1 u1 l2 x0 x1 x2 x3 b1, (if IsArena m a s n c u l ∧ OkAsk ⟨q0, q1⟩ ∧ q0 ≤ n - begN u q1 then (m, a, s, n, c, begN u q1 + q0, l, a, s + begN u q1, q0, q0, true) else ([], 0, 0, 0, 0, 0, [], 0, 0, 0, 0, false)) = (m1, a1, s1, n1, c1, u1, l2, x0, x1, x2, x3, b1) ∧ Small m1 ∧ (∀ z ∈ m1, Small z) ∧ Small l2 := by
      split
      · exact ⟨_, _, _, _, _, _, _, _, _, _, _, _, rfl, hs1, hs2, hs3⟩
      · exact ⟨_, _, _, _, _, _, _, _, _, _, _, _, rfl, by simp [Small], fun z hz => (List.not_mem_nil hz).elim, by simp [Small]⟩
    rw [e] at spec impl
    have eq1 := eqArena_is (a := a1) (s := s1) (n := n1) (c := c1) (u := u1) hm1' hmz hl1'
    have eq3 := eqArena_is (a := a) (s := s) (n := n) (c := c) (u := u) hs1 hs2 hs3
    obtain ⟨x2', y2, r3, _, _, hr3, hr3', hk2, _⟩ := markArena_is (a := a) (s := s) (n := n) (c := c) (u := u) (b := 1) hs1 hs2 hs3 (by omega) (by omega)
    obtain ⟨x4, y4, r4, _, _, hr4, hr4', hk4, hh4⟩ := markArena_is (a := a1) (s := s1) (n := n1) (c := c1) (u := u1) (b := 1) hm1' hmz hl1' (by omega) (by omega)
    obtain ⟨K0, hr⟩ := hr; obtain ⟨K1, hto⟩ := hto; obtain ⟨K3, spec⟩ := spec; obtain ⟨K4, impl⟩ := impl; obtain ⟨K5, eq1⟩ := eq1; obtain ⟨K7, eq3⟩ := eq3
    obtain ⟨K9, hk2⟩ := hk2; obtain ⟨K11, hk4⟩ := hk4; obtain ⟨K13, hh4⟩ := hh4
    exact .inl ⟨K0 + K1 + K3 + K4 + K5 + K7 + K9 + K11 + K13, r, m, a, s, n, c, u, l, q0, q1, m1, a1, s1, n1, c1, u1, l2, x0, x1, x2, x3, b1, r3, x2', y2, r4, x4, y4, hr _ (by omega), by omega, hto _ (by omega), toAsked_is _ _, spec _ (by omega), impl _ (by omega), eq1 _ (by omega), eqWindow_is _ _ _ _, eq3 _ (by omega), hk2 _ (by omega), hr3, hk4 _ (by omega), hh4 _ (by omega), hr4⟩
end Go.Proofs.Ytmkcbbbknbahgaa.P
namespace Go.Proofs.Ytmkcbbbknbahgaa.fnExactGive
open Go.ChangeShapes Go.WideShapes Go.ChangeAt Go.RowKit
open Go.ChangeMaps (open_string shut_string)
open Go.Proofs.Ytmkcbbbknbahgaa.P Go.Proofs.YtmkcbbbknbahgaaW.PrintWords Go.Proofs.YtmkcbbbknbahgaaW.PrintLast Go.Proofs.YtmkcbbbknbahgaaW.PrintMore
set_option linter.unusedVariables false

theorem own : ownKnob Try.prog.godebug = none := by kernel_rfl

theorem laidOut : laidOutB Try.prog = true := by kernel_rfl

set_option maxRecDepth 100000 in
set_option maxHeartbeats 2000000 in
theorem lifted (os : Os) (started : os.Started) (H : Type) (enc : TypeId × Value → H) :
    ReturnsInHanded {} Try.checked os 6 .any (Rows.fnExactGiveSpec.pre6 enc Try.prog Try.f6 Rows.fnExactGiveRow.domain false) (Rows.fnExactGiveSpec.post enc Try.prog Try.f6 false true false false) := by
  refine returnsInHanded_of_change_sized (C := Try.checked) own started (by kernel_rfl) Try.func6
    (ChangeSpec.witness6 (enc := enc) (C := Try.checked) false ⟨#[], #[.agg #[.slice none 0 0, .int .i64 0, .int .i64 0, .int .i64 0, .int .i64 0, .int .i64 0, .slice none 0 0], .agg #[.int .i64 0, .int .i64 0]], []⟩ 8 (by kernel_rfl) (by kernel_rfl) (by kernel_rfl) (by kernel_rfl)) ?_
  intro W base args ds gs before hval0 hW hcnd hsz0 _
  have hsz : (DataW.weightsEach Try.prog (Try.f6.params.toList ++ Rows.fnExactGiveSpec.plain.varTypes Try.prog) (ds ++ gs)).all (· ≤ reachBytes) = true := hsz0
  have hval : ∀ (j : Nat) t v, Try.f6.params[j]? = some t → args[j]? = some v → Value.okWide Try.prog W .any base t v := hval0
  have hW' := hW
  obtain ⟨p, q, hA0, hV, rfl, hfz, hnd⟩ := hW
  have hA : DataW.TrodAll enc Try.prog W 0 (fun _ => true) true Try.f6.params.toList args.toList ds p := hA0
  rw [Try.params6] at hA hval hsz
  obtain ⟨v0, vs0, d0, ds0, p0, q0, hargs, rfl, rfl, h0, r0⟩ := trodAll_cons hA
  obtain ⟨v1, vs1, d1, ds1, p1, q1, rfl, rfl, rfl, h1, r1⟩ := trodAll_cons r0
  obtain ⟨rfl, rfl, rfl⟩ := trodAll_nil r1
  obtain rfl : args = #[v0, v1] := by cases args; simp_all
  obtain ⟨rfl, rfl⟩ := trodVars_none hV
  obtain ⟨cs0, rfl, _⟩ := okWide_struct Try.underlying65 (hval 0 65 v0 rfl rfl)
  have k0 := h0
  have lt0 : ∀ x ∈ p0, x.block < W.heap.size := by obtain ⟨m, hm⟩ := k0; exact DataW.trod_lt m _ _ _ hm
  obtain ⟨A0_0, c0_0, l0_0, a0_1, a0_2, a0_3, a0_4, a0_5, A0_6, c0_6, l0_6, e0, HR0_0, HC0_0, W0_0, W0_1, W0_2, W0_3, W0_4, W0_5, HR0_6, HC0_6, W0_6, _⟩ : ∃ (A0_0 : Option Addr) (c0_0 : Nat) (l0_0 : List (List Int)) (a0_1 : Int) (a0_2 : Int) (a0_3 : Int) (a0_4 : Int) (a0_5 : Int) (A0_6 : Option Addr) (c0_6 : Nat) (l0_6 : List Int), cs0 = #[.slice A0_0 l0_0.length c0_0, .int .i64 a0_1, .int .i64 a0_2, .int .i64 a0_3, .int .i64 a0_4, .int .i64 a0_5, .slice A0_6 l0_6.length c0_6] ∧ Kd.C (Kd.slice 5 (Kd.int .u8)) W A0_0 l0_0.length l0_0 ∧ l0_0.length ≤ c0_0 ∧ (l0_0.length ≤ maxLen ∧ ∀ z ∈ l0_0, (z.length ≤ maxLen ∧ ∀ z2 ∈ z, (Lit.int .u8 z2).wf = true)) ∧ (Lit.int .i64 a0_1).wf = true ∧ (Lit.int .i64 a0_2).wf = true ∧ (Lit.int .i64 a0_3).wf = true ∧ (Lit.int .i64 a0_4).wf = true ∧ (Lit.int .i64 a0_5).wf = true ∧ Kd.C (Kd.int .i64) W A0_6 l0_6.length l0_6 ∧ l0_6.length ≤ c0_6 ∧ (l0_6.length ≤ maxLen ∧ ∀ z ∈ l0_6, (Lit.int .i64 z).wf = true) ∧ True := by
    obtain ⟨fuel, hf⟩ := h0
    obtain ⟨A0_0, c0_0, l0_0, a0_1, a0_2, a0_3, a0_4, a0_5, A0_6, c0_6, l0_6, e_, r_⟩ := P.cells_65 hf
    refine ⟨A0_0, c0_0, l0_0, a0_1, a0_2, a0_3, a0_4, a0_5, A0_6, c0_6, l0_6, ?_, r_⟩
    exact Array.toList_inj.1 e_
  subst e0
  obtain ⟨cs1, rfl, _⟩ := okWide_struct Try.underlying67 (hval 1 67 v1 rfl rfl)
  have k1 := h1
  have lt1 : ∀ x ∈ p1, x.block < W.heap.size := by obtain ⟨m, hm⟩ := k1; exact DataW.trod_lt m _ _ _ hm
  obtain ⟨a1_0, a1_1, e1, W1_0, W1_1, _⟩ : ∃ (a1_0 : Int) (a1_1 : Int), cs1 = #[.int .i64 a1_0, .int .i64 a1_1] ∧ (Lit.int .i64 a1_0).wf = true ∧ (Lit.int .i64 a1_1).wf = true ∧ True := by
    obtain ⟨fuel, hf⟩ := h1
    obtain ⟨a1_0, a1_1, e_, r_⟩ := P.cells_67 hf
    refine ⟨a1_0, a1_1, ?_, r_⟩
    exact Array.toList_inj.1 e_
  subst e1
  clear hA0 hval0 hsz0 hsz
  refine (P.FnExactGive.call P.FnExactGive.pure A0_0 c0_0 l0_0 a0_1 a0_2 a0_3 a0_4 a0_5 A0_6 c0_6 l0_6 a1_0 a1_1 W HR0_0 HC0_0 HR0_6 HC0_6 W0_0 W0_1 W0_2 W0_3 W0_4 W0_5 W0_6 W1_0 W1_1).mono fun e W' ⟨he, bel⟩ => ?_
  subst he
  exact ⟨_, rfl, _, _, _, [], _, [], hW', trodAll_mk1 (shut_bool Try.underlying4 _), (trodAll_cons_mk (Below.trod laidOut (by kernel_rfl) (of_decide_eq_true (by kernel_rfl)) k0 bel lt0) (trodAll_cons_mk (Below.trod laidOut (by kernel_rfl) (of_decide_eq_true (by kernel_rfl)) k1 bel lt1) trodAll_mk0)), rfl, bel.frame _, fun h => by cases h⟩

theorem cl1 : Try.pinned.checked.prog.funcNamed Rows.fnExactGiveRow.func = some 6 := by kernel_rfl

theorem cl2 : joinedFacts Try.pinned.checked.prog 6 Try.f6 Rows.fnExactGiveSpec Rows.fnExactGiveRow = true := by kernel_rfl

theorem cl3 : Try.f6.isInstance Try.pinned.checked.prog Rows.fnExactGiveRow.origin Rows.fnExactGiveRow.targs := of_decide_eq_true (by kernel_rfl)

theorem cl4 : Try.f6.isWrapper Try.pinned.checked.prog Rows.fnExactGiveRow.wrapper Rows.fnExactGiveRow.mainSum := (by unfold Func.isWrapper; first | (rw [if_pos (by decide +kernel)]; kernel_rfl) | (rw [if_neg (by decide +kernel)]; exact ⟨rfl, rfl⟩))

theorem over : Rows.fnExactGiveRow.holds Try.pinned (OpenSpec.ofChange Rows.fnExactGiveSpec) :=
  OpenClaim.holds_of_wide 6 Try.f6 rfl rfl rfl rfl rfl rfl rfl ⟨rfl, rfl, rfl, rfl, rfl⟩ rfl rfl rfl rfl rfl cl1 Try.func6 cl2 cl3 cl4
    (fun os started H enc _ => lifted os started H enc)

theorem proved : Rows.FnExactGiveSaid := over
#print axioms proved
end Go.Proofs.Ytmkcbbbknbahgaa.fnExactGive
namespace Go.Proofs.Ytmkcbbbknbahgaa

/-- The row, under a short name, for the claim. -/
theorem fnExactGive_holds : Rows.FnExactGiveSaid := fnExactGive.proved
end Go.Proofs.Ytmkcbbbknbahgaa
