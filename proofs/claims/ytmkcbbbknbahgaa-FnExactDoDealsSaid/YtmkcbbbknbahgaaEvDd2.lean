/- Part 2 of the proof: the evaluator and the contracts of functions. -/
import Derived.Below
import Derived.KernelRfl
import Derived.Laws.AppendOwn
import Derived.Laws.BytesArg
import Derived.Laws.BytesString
import Derived.Laws.CopyRow
import Derived.Laws.Entries
import Derived.Laws.IdiomCopy
import Derived.Laws.MakeOwn
import Derived.Laws.OwnMore
import Derived.Orders
import Derived.Test.YtmkcbbbknbahgaaEvDd1
set_option linter.unusedVariables false
set_option linter.unusedSimpArgs false
set_option linter.unusedSectionVars false
namespace Go.Ev
open Go Go.RowKit

def upInv (σ : Nat → Nat) (len n : Nat) : Option Nat := (List.range len).find? fun i => decide (σ i = n)

theorem upInv_some {σ : Nat → Nat} {len n i : Nat} (h : upInv σ len n = some i) : i < len ∧ σ i = n :=
  ⟨List.mem_range.1 (List.mem_of_find?_eq_some h), by simpa using List.find?_some h⟩

theorem upInv_none {σ : Nat → Nat} {len n : Nat} (h : upInv σ len n = none) : ∀ i, i < len → σ i ≠ n := by
  intro i hi e
  have := List.find?_eq_none.1 h i (List.mem_range.2 hi)
  simp [e] at this

/-- The callee's end, seen by the caller. -/
def upCx (C C' : Cx) (σ : Nat → Nat) (len : Nat) (R : Rs) : Cx where
  w := C'.w
  F := C'.F
  io := fun p => match upInv σ len p.1 with | some i => C'.io (i, p.2) | none => C.io p
  R := R
  A := fun n => C.A n ∨ ∃ i, i < len ∧ σ i = n

theorem rnC_simple {pu : Bool} {ρ : Nat → Nat} {c : V} (h : (match c with | .any => true | .val _ => true | .list .. => !pu | .ept .. => !pu | _ => false) = true) : rnC ρ c = c := by
  cases c <;> first | rfl | simp at h

structure Up (C C2 C' : Cx) (σ : Nat → Nat) (ns zs : List Nat) (len : Nat) (R : Rs) : Prop where
  hC : Sat C
  h2 : ∀ i q sz xs, getP C2.R (i, q) = some (sz, xs) → ∃ xs0, getP C.R (σ i, q) = some (sz, xs0) ∧ xs0.length = xs.length ∧ C2.io (i, q) = C.io (σ i, q)
  w : C2.w = C.w
  F1 : ∀ k, C.F k → C2.F k
  F2 : ∀ k, C2.F k → C.F k ∨ OwnD C zs k
  O2 : ∀ k, Owned C2 k → OwnD C ns k
  S' : Sat C'
  e : Ext C2 C'
  f : Fr C2 C'
  A2 : ∀ i, i < ns.length → C2.A i
  A' : ∀ n, C'.A n → n < len
  inj : ∀ i j, i < len → j < len → σ i = σ j → i = j
  img : ∀ n, n ∈ ns → ∃ i, i < len ∧ σ i = n
  new : ∀ i, ns.length ≤ i → i < len → ¬ C.A (σ i)
  r1 : ∀ i, i < len → R (σ i) = (C'.R i).map (rnR σ)
  r2 : ∀ n, (∀ i, i < len → σ i ≠ n) → R n = if n ∈ zs then none else C.R n
  zn : ∀ z, z ∈ zs → z ∉ ns
  ok : ∀ i r, C'.R i = some r → r.els.all (·.all (okC false len)) = true

namespace Up
variable {C C2 C' : Cx} {σ : Nat → Nat} {ns zs : List Nat} {len : Nat} {R : Rs} (u : Up C C2 C' σ ns zs len R)
include u

theorem inv {i : Nat} (h : i < len) : upInv σ len (σ i) = some i := by
  cases e : upInv σ len (σ i) with
  | none => exact absurd rfl (upInv_none e i h)
  | some j =>
    obtain ⟨h1, h2⟩ := upInv_some e
    rw [u.inj j i h1 h h2]

theorem back {i : Nat} {q : Option (Nat × Nat)} {sz : Nat} {xs : List (List V)} (hi : i < len) (h : getP R (σ i, q) = some (sz, xs)) :
    ∃ xs1, getP C'.R (i, q) = some (sz, xs1) ∧ xs = xs1.map (·.map (rnC σ)) ∧ xs1.all (·.all (okC false len)) = true := by
  obtain ⟨r, hr⟩ := getP_some h
  have hr' := hr
  simp only [u.r1 i hi, Option.map_eq_some_iff] at hr'
  obtain ⟨r1, e1, e2⟩ := hr'
  have hok := u.ok i r1 e1
  cases q with
  | none =>
    rw [act_of hr] at h
    simp only [Option.some.injEq, Prod.mk.injEq] at h
    obtain ⟨rfl, rfl⟩ := h
    subst e2
    exact ⟨r1.els, act_of e1, rfl, hok⟩
  | some ab =>
    obtain ⟨a, b⟩ := ab
    obtain ⟨x, k1, k2⟩ := getP_row hr h
    subst e2
    simp only [rnR, List.getElem?_map, Option.map_eq_some_iff] at k1
    obtain ⟨x1, k3, rfl⟩ := k1
    rw [List.getElem?_map, Option.map_eq_some_iff] at k2
    obtain ⟨c1, k4, k5⟩ := k2
    have := rnC_row k5
    subst this
    have hc := List.all_eq_true.1 (List.all_eq_true.1 hok x1 (List.mem_of_getElem? k3)) _ (List.mem_of_getElem? k4)
    simp only [okC] at hc
    refine ⟨xs, getP_cell e1 k3 k4, ?_, ?_⟩
    · have : xs.map (·.map (rnC σ)) = xs.map id := List.map_congr_left fun y hy => by
        have : y.map (rnC σ) = y.map id := List.map_congr_left fun c hcy => rnC_simple (pu := false) (List.all_eq_true.1 (List.all_eq_true.1 hc y hy) c hcy)
        rw [this]; simp
      rw [this]; simp
    · refine List.all_eq_true.2 fun y hy => List.all_eq_true.2 fun c hcy => ?_
      have := List.all_eq_true.1 (List.all_eq_true.1 hc y hy) c hcy
      cases c <;> first | rfl | simp at this

theorem old {p : Pl} {sz : Nat} {xs : List (List V)} (hp : ∀ i, i < len → σ i ≠ p.1) (h : getP R p = some (sz, xs)) : p.1 ∉ zs ∧ getP C.R p = some (sz, xs) ∧ R p.1 = C.R p.1 := by
  obtain ⟨r, hr⟩ := getP_some h
  have hr' := hr
  rw [u.r2 _ hp] at hr'
  by_cases hz : p.1 ∈ zs
  · rw [if_pos hz] at hr'; cases hr'
  · rw [if_neg hz] at hr'
    exact ⟨hz, by rw [← h]; exact getP_congr (hr'.trans hr.symm), hr.trans hr'.symm⟩

theorem keep {p : Pl} {g : Nat} (hp : ∀ i, i < len → σ i ≠ p.1) (ha : Act? C p) (hi : C.io p = some g) : ¬ Owned C2 g ∧ g < C.w.heap.size := by
  refine ⟨fun ho => ?_, u.hC.owned_lt ⟨p, ha, hi⟩⟩
  obtain ⟨q, h1, h2, h3⟩ := u.O2 g ho
  have := u.hC.inj p q g ha h1 hi h3
  subst this
  obtain ⟨i, h4, h5⟩ := u.img _ h2
  exact hp i h4 h5

theorem io1 {i : Nat} (hi : i < len) (q : Option (Nat × Nat)) : (upCx C C' σ len R).io (σ i, q) = C'.io (i, q) := by
  simp only [upCx, u.inv hi]
theorem io0 {p : Pl} (hp : ∀ i, i < len → σ i ≠ p.1) : (upCx C C' σ len R).io p = C.io p := by
  simp only [upCx]
  cases e : upInv σ len p.1 with
  | none => rfl
  | some i => exact absurd (upInv_some e).2 (hp i (upInv_some e).1)

theorem cases_ (n : Nat) : (∃ i, i < len ∧ σ i = n) ∨ ∀ i, i < len → σ i ≠ n := by
  cases e : upInv σ len n with
  | none => exact .inr (upInv_none e)
  | some i => exact .inl ⟨i, upInv_some e⟩

theorem ext : Ext C (upCx C C' σ len R) := by
  refine ⟨fun k hk => by have := u.e.fr k (u.F1 k hk); rw [u.w] at this; exact this, fun k hk => u.e.F k (u.F1 k hk), fun n hn => .inl hn, fun p hA sz xs hx => ?_⟩
  obtain ⟨n, q⟩ := p
  rcases u.cases_ n with ⟨i, hi, rfl⟩ | hp
  · have hk : i < ns.length := by
      by_cases h : i < ns.length
      · exact h
      · exact absurd hA (u.new i (by omega) hi)
    obtain ⟨xs1, h1, h2, _⟩ := u.back hi hx
    obtain ⟨xs2, k1, k2, k3, k4⟩ := u.e.pl (i, q) (u.A2 i hk) sz xs1 h1
    obtain ⟨xs0, m1, m2, m3⟩ := u.h2 i q sz xs2 k1
    refine ⟨xs0, m1, by rw [h2, List.length_map]; omega, by rw [u.io1 hi, k3, m3], fun g hg cs ty hh => ?_⟩
    exact k4 g (m3.trans hg) cs ty (by rw [u.w]; exact hh)
  · obtain ⟨hz, h1, _⟩ := u.old hp hx
    refine ⟨xs, h1, Nat.le_refl _, u.io0 hp, fun g hg cs ty hh => ⟨cs, ?_, rfl⟩⟩
    obtain ⟨k1, k2⟩ := u.keep hp (by unfold Act?; rw [h1]; rfl) hg
    have := u.f.block g (by rw [u.w]; exact k2) k1
    rw [u.w] at this
    exact this.trans hh

theorem vrC {v : Value} {c : V} (hv : VR C' v c) (hc : okC false len c = true) : VR (upCx C C' σ len R) v (rnC σ c) := by
  cases c with
  | any => exact .fro (.any v)
  | val x => rw [hv.val_inv]; exact .fro (.val x)
  | list sz xs => exact .fro hv.list_inv
  | ept x j => exact .fro hv.ept_inv
  | ref p off ln =>
    obtain ⟨a, cap, rfl, hA, hs⟩ := hv.ref_inv
    have hl := u.A' _ hA
    refine .ref (.inr ⟨_, hl, rfl⟩) (fun sz xs hp => ?_)
    obtain ⟨xs1, h1, h2, _⟩ := u.back hl hp
    obtain ⟨o1, o2, o3, o4, o5⟩ := hs _ _ h1
    refine ⟨by rw [h2, List.length_map]; exact o1, o2, o3, fun h => o4 (by rw [← u.io1 hl]; exact h), fun g hg => o5 g (by rw [← u.io1 hl]; exact hg)⟩
  | ptr p i j =>
    obtain ⟨ad, rfl, hA, hs⟩ := hv.ptr_inv
    have hl := u.A' _ hA
    refine .ptr (.inr ⟨_, hl, rfl⟩) (fun sz xs hp => ?_)
    obtain ⟨xs1, h1, h2, _⟩ := u.back hl hp
    obtain ⟨g, k1, k2⟩ := hs _ _ h1
    exact ⟨g, by rw [u.io1 hl]; exact k1, k2⟩
  | row s zs => exact hv.not_row.elim
  | agg cs => simp [okC] at hc
  | tup cs => simp [okC] at hc
  | clo f cs => simp [okC] at hc

theorem vrA {v : Value} {c : V} (hv : VR C' v c) (hc : okA false len c = true) : VR (upCx C C' σ len R) v (rnA σ c) := by
  cases c with
  | agg cs =>
    obtain ⟨vs, rfl, h1, h2⟩ := hv.agg_inv
    refine .agg (by simpa using h1) (fun i x c h3 h4 => ?_)
    rw [List.getElem?_map, Option.map_eq_some_iff] at h4
    obtain ⟨d, hd, rfl⟩ := h4
    exact u.vrC (h2 i x d h3 hd) (List.all_eq_true.1 hc d (List.mem_of_getElem? hd))
  | clo f cs =>
    obtain ⟨vs, rfl, h1, h2⟩ := hv.clo_inv
    refine .clo (by simpa using h1) (fun i x c h3 h4 => ?_)
    rw [List.getElem?_map, Option.map_eq_some_iff] at h4
    obtain ⟨d, hd, rfl⟩ := h4
    exact u.vrC (h2 i x d h3 hd) (List.all_eq_true.1 hc d (List.mem_of_getElem? hd))
  | _ => exact u.vrC hv hc

theorem vrV {v : Value} {c : V} (hv : VR C' v c) (hc : okV false len c = true) : VR (upCx C C' σ len R) v (rnV σ c) := by
  cases c with
  | tup cs =>
    obtain ⟨vs, rfl, h1, h2⟩ := hv.tup_inv
    refine .tup (by simpa using h1) (fun i x c h3 h4 => ?_)
    rw [List.getElem?_map, Option.map_eq_some_iff] at h4
    obtain ⟨d, hd, rfl⟩ := h4
    exact u.vrA (h2 i x d h3 hd) (List.all_eq_true.1 hc d (List.mem_of_getElem? hd))
  | _ => exact u.vrA hv hc

theorem actb {i : Nat} {q : Option (Nat × Nat)} (hi : i < len) (h : Act? (upCx C C' σ len R) (σ i, q)) : Act? C' (i, q) := by
  obtain ⟨⟨sz, xs⟩, e⟩ := Option.isSome_iff_exists.1 h
  obtain ⟨xs1, k, _⟩ := u.back hi e
  unfold Act?; rw [k]; rfl

theorem acto {p : Pl} (hp : ∀ i, i < len → σ i ≠ p.1) (h : Act? (upCx C C' σ len R) p) : p.1 ∉ zs ∧ Act? C p := by
  obtain ⟨⟨sz, xs⟩, e⟩ := Option.isSome_iff_exists.1 h
  obtain ⟨k1, k2, _⟩ := u.old hp e
  exact ⟨k1, by unfold Act?; rw [k2]; rfl⟩

theorem apart {i : Nat} {p : Pl} {q : Option (Nat × Nat)} {g : Nat} (hp : ∀ i, i < len → σ i ≠ p.1) (ha : Act? C p) (hg : C.io p = some g) (hb : Act? C' (i, q)) (hi : C'.io (i, q) = some g) : False := by
  obtain ⟨k1, k2⟩ := u.keep hp ha hg
  rcases u.f.own g ⟨_, hb, hi⟩ with h | h
  · exact k1 h
  · rw [u.w] at h; omega

theorem sat : Sat (upCx C C' σ len R) := by
  have hx := u.ext
  refine ⟨fun p sz xs hp => ?_, fun p q g hp hq h1 h2 => ?_, fun p g hp h1 hF => ?_, u.S'.lt, fun n r hr => ?_⟩
  · obtain ⟨n, q⟩ := p
    rcases u.cases_ n with ⟨i, hi, rfl⟩ | hn
    · obtain ⟨xs1, h1, rfl, h3⟩ := u.back hi hp
      obtain ⟨k1, k2, k3⟩ := u.S'.pl _ _ _ h1
      refine ⟨fun x hx => ?_, fun h => ?_, fun g hg => ?_⟩
      · obtain ⟨y, hy, rfl⟩ := List.mem_map.1 hx
        rw [List.length_map]; exact k1 y hy
      · rw [k2 (by rw [← u.io1 hi]; exact h)]; rfl
      · obtain ⟨cs, ty, m1, m2, m3, m4⟩ := k3 g (by rw [← u.io1 hi]; exact hg)
        refine ⟨cs, ty, m1, fun hq r hr => ?_, by rw [List.length_map]; exact m3, fun a x j c e1 e2 => ?_⟩
        · have hr' : R (σ i) = some r := hr
          rw [u.r1 i hi, Option.map_eq_some_iff] at hr'
          obtain ⟨r1, q1, q2⟩ := hr'
          rw [← q2]
          exact m2 hq r1 q1
        · rw [List.getElem?_map, Option.map_eq_some_iff] at e1
          obtain ⟨x1, e3, rfl⟩ := e1
          rw [List.getElem?_map, Option.map_eq_some_iff] at e2
          obtain ⟨c1, e4, rfl⟩ := e2
          have hc := List.all_eq_true.1 (List.all_eq_true.1 h3 x1 (List.mem_of_getElem? e3)) c1 (List.mem_of_getElem? e4)
          obtain ⟨v, n1, n2, n3⟩ := m4 a x1 j c1 e3 e4
          refine ⟨v, n1, n2, ?_⟩
          cases c1 with
          | row s zs' =>
            obtain ⟨n4, n5⟩ := n3
            exact ⟨n4, u.vrC (c := .ref (i, some (a, j)) 0 zs'.length) n5 (by simp only [okC, decide_eq_true_eq]; exact hi)⟩
          | ref p' off ln => exact u.vrC (c := .ref p' off ln) n3 hc
          | ptr p' i' j' => exact u.vrC (c := .ptr p' i' j') n3 hc
          | any => exact u.vrC (c := .any) n3 hc
          | val x => exact u.vrC (c := .val x) n3 hc
          | list a' b' => exact u.vrC (c := .list a' b') n3 hc
          | ept a' b' => exact u.vrC (c := .ept a' b') n3 hc
          | agg _ => simp [okC] at hc
          | tup _ => simp [okC] at hc
          | clo _ _ => simp [okC] at hc
    · obtain ⟨hz, hg, hR⟩ := u.old hn hp
      obtain ⟨k1, k2, k3⟩ := u.hC.pl _ _ _ hg
      refine ⟨k1, fun h => k2 (by rw [← u.io0 (p := (n, q)) hn]; exact h), fun g hgi => ?_⟩
      rw [u.io0 hn] at hgi
      obtain ⟨cs, ty, m1, m2, m3, m4⟩ := k3 g hgi
      obtain ⟨j1, j2⟩ := u.keep hn (by unfold Act?; rw [hg]; rfl) hgi
      refine ⟨cs, ty, ?_, fun hq r hr => m2 hq r (by rw [← hR]; exact hr), m3, fun i x j c e1 e2 => ?_⟩
      · have := u.f.block g (by rw [u.w]; exact j2) j1
        rw [u.w] at this
        exact this.trans m1
      · obtain ⟨v, n1, n2, n3⟩ := m4 i x j c e1 e2
        exact ⟨v, n1, n2, n3.ext hx⟩
  · obtain ⟨n, s⟩ := p
    obtain ⟨m, t⟩ := q
    rcases u.cases_ n with ⟨i, hi, rfl⟩ | hn
    · rw [u.io1 hi] at h1
      have a1 := u.actb hi hp
      rcases u.cases_ m with ⟨j, hj, rfl⟩ | hm
      · rw [u.io1 hj] at h2
        have := u.S'.inj _ _ g a1 (u.actb hj hq) h1 h2
        simp only [Prod.mk.injEq] at this
        rw [this.1, this.2]
      · rw [u.io0 hm] at h2
        exact (u.apart hm (u.acto hm hq).2 h2 a1 h1).elim
    · rw [u.io0 hn] at h1
      rcases u.cases_ m with ⟨j, hj, rfl⟩ | hm
      · rw [u.io1 hj] at h2
        exact (u.apart hn (u.acto hn hp).2 h1 (u.actb hj hq) h2).elim
      · rw [u.io0 hm] at h2
        exact u.hC.inj _ _ g (u.acto hn hp).2 (u.acto hm hq).2 h1 h2
  · obtain ⟨n, s⟩ := p
    rcases u.cases_ n with ⟨i, hi, rfl⟩ | hn
    · rw [u.io1 hi] at h1
      exact u.S'.own _ g (u.actb hi hp) h1 hF
    · rw [u.io0 hn] at h1
      obtain ⟨hz, ha⟩ := u.acto hn hp
      obtain ⟨k1, k2⟩ := u.keep hn ha h1
      rcases u.f.F g hF with h | h | h
      · rcases u.F2 g h with h | ⟨q, q1, q2, q3⟩
        · exact u.hC.own _ g ha h1 h
        · exact hz ((u.hC.inj _ q g ha q1 h1 q3) ▸ q2)
      · exact k1 h
      · rw [u.w] at h; omega
  · rcases u.cases_ n with ⟨i, hi, e⟩ | hn
    · exact .inr ⟨i, hi, e⟩
    · have hr' : R n = some r := hr
      rw [u.r2 n hn] at hr'
      split at hr'
      · cases hr'
      · exact .inl (u.hC.nm n r hr')

theorem fr : Fr C (upCx C C' σ len R) := by
  have w := u.w
  refine ⟨by have := u.f.os; rw [w] at this; exact this, by have := u.f.tape; rw [w] at this; exact this, by have := u.f.output; rw [w] at this; exact this, by have := u.f.size; rw [w] at this; exact this, fun k hk ho => ?_, ?_, fun k hk => ?_⟩
  · have := u.f.block k (by rw [w]; exact hk) fun h => by
      obtain ⟨q, q1, _, q3⟩ := u.O2 k h
      exact ho ⟨q, q1, q3⟩
    rw [w] at this
    exact this
  · rintro k ⟨p, hp, hi⟩
    obtain ⟨n, s⟩ := p
    rcases u.cases_ n with ⟨i, h, rfl⟩ | hn
    · rw [u.io1 h] at hi
      rcases u.f.own k ⟨_, u.actb h hp, hi⟩ with h1 | h1
      · obtain ⟨q, q1, _, q3⟩ := u.O2 k h1
        exact .inl ⟨q, q1, q3⟩
      · rw [w] at h1; exact .inr h1
    · rw [u.io0 hn] at hi
      exact .inl ⟨_, (u.acto hn hp).2, hi⟩
  · rcases u.f.F k hk with h | h | h
    · rcases u.F2 k h with h1 | ⟨q, q1, _, q3⟩
      · exact .inl h1
      · exact .inr (.inl ⟨q, q1, q3⟩)
    · obtain ⟨q, q1, _, q3⟩ := u.O2 k h
      exact .inr (.inl ⟨q, q1, q3⟩)
    · rw [w] at h; exact .inr (.inr h)
end Up
end Go.Ev
namespace Go.Ev
open Go Go.RowKit
variable {P : Program} {C : Cx} {b : Nat}

/-- The roots that are handed in, as the callee names them. -/
def HandL (R : Rs) (ns : List Nat) (bd : Nat) : List Nat → List Root → Prop
  | [], [] => True
  | n :: l, r :: rs => (∃ r0, R n = some r0 ∧ r0.ty = r.ty ∧ r0.sz = r.sz ∧ r0.els = r.els.map (·.map (rnC fun k => ns.getD k 0)) ∧ r.els.all (·.all (okC false bd)) = true) ∧ HandL R ns bd l rs
  | _, _ => False

theorem handL_spec {R : Rs} {ns : List Nat} {bd : Nat} : ∀ {l : List Nat} {rs : List Root}, HandL R ns bd l rs → l.length = rs.length ∧ ∀ (k : Nat) r, rs[k]? = some r → ∃ n r0, l[k]? = some n ∧ R n = some r0 ∧ r0.ty = r.ty ∧ r0.sz = r.sz ∧ r0.els = r.els.map (·.map (rnC fun k => ns.getD k 0)) ∧ r.els.all (·.all (okC false bd)) = true
  | [], [], _ => ⟨rfl, fun k r h => by simp at h⟩
  | n :: l, r :: rs, h => by
    obtain ⟨k1, k2⟩ := handL_spec h.2
    refine ⟨by simp [k1], fun k q hq => ?_⟩
    cases k with
    | zero => simp only [List.getElem?_cons_zero, Option.some.injEq] at hq; subst hq; obtain ⟨r0, h1⟩ := h.1; exact ⟨n, r0, rfl, h1⟩
    | succ k => exact k2 k q (by simpa using hq)
  | [], _ :: _, h => h.elim
  | _ :: _, [], h => h.elim

theorem handL_congr {R R' : Rs} {ns : List Nat} {bd : Nat} : ∀ {l : List Nat} {rs : List Root}, HandL R ns bd l rs → (∀ n, n ∈ l → R n = R' n) → HandL R' ns bd l rs
  | [], [], _, _ => trivial
  | n :: l, r :: rs, h, hn => ⟨by rw [← hn n (by simp)]; exact h.1, handL_congr h.2 fun m hm => hn m (by simp [hm])⟩
  | [], _ :: _, h, _ => h.elim
  | _ :: _, [], h, _ => h.elim

theorem call_ref {f : FuncId} {ys : List V} {v : V} {rs : List Root} {rs' : List (Option Root)} (hG : GoodR P f ys rs v rs') (hC : Sat C) {xs : List V} {ns zs : List Nat} {vals : Array Value} (hl : vals.size = xs.length)
    (hv : ∀ (i : Nat) v x, vals[i]? = some v → xs[i]? = some x → VR C v x) (hnd : ns.Nodup) (hH : HandL C.R ns ns.length ns rs) (hz : ∀ z, z ∈ zs → z ∉ ns) (ha : ArgR C.R ns zs xs ys) (hb : ∀ n, b ≤ n → n < b + (rs'.length - rs.length) → ¬ C.A n) :
    Calls P f vals C.w fun e w' => ∃ v' C'', e = .returned v' ∧ C''.w = w' ∧ Sat C'' ∧ Ext C C'' ∧ Fr C C'' ∧ C''.R = applyF C.R (wrR ns zs b rs') ∧ VR C'' v' (rnV (upN ns b) v) ∧ ∀ n, C''.A n → C.A n ∨ (b ≤ n ∧ n < b + (rs'.length - rs.length)) := by
  obtain ⟨_, hlen, hokv, hokr, hG⟩ := hG
  obtain ⟨l1, l2⟩ := handL_spec hH
  have hnsR : ∀ n, n ∈ ns → ∃ r, C.R n = some r := by
    intro n hn
    obtain ⟨k, hk⟩ := List.getElem?_of_mem hn
    have hk' := (List.getElem?_eq_some_iff.1 hk).1
    obtain ⟨n', r0, q1, q2, _⟩ := l2 k _ (List.getElem?_eq_getElem (by omega))
    rw [hk] at q1; cases q1
    exact ⟨r0, q2⟩
  have getns : ∀ k, k < ns.length → ns.getD k 0 ∈ ns := fun k hk => by
    rw [List.getD_eq_getElem?_getD, List.getElem?_eq_getElem hk]; exact List.getElem_mem hk
  -- the handed-in roots alone; the ended ones frozen
  obtain ⟨s1, e1, o1⟩ := pr_ok hC (fun n => n ∈ ns) (fun k => C.F k ∨ OwnD C zs k) (fun _ h => .inl h) (fun k hk => hk.elim (hC.lt k) fun ⟨p, p1, _, p3⟩ => hC.owned_lt ⟨p, p1, p3⟩)
    (fun p g hp hact hi hF => hF.elim (hC.own p g hact hi) fun ⟨q, q1, q2, q3⟩ => hz p.1 ((hC.inj p q g hact q1 hi q3) ▸ q2) hp)
  obtain ⟨s3, e3, o3⟩ := pr_ok hC (fun n => n ∈ zs) C.F (fun _ h => h) hC.lt (fun p g _ hact hi => hC.own p g hact hi)
  generalize hC1 : prCx C (fun n => n ∈ ns) (fun k => C.F k ∨ OwnD C zs k) = C1 at *
  have hren : RenR C1 (fun k => ns.getD k 0) (fun n => rs[n]?) rs.length false := by
    intro n r hr
    obtain ⟨m, r0, q1, q2, q3, q4, q5, q6⟩ := l2 n r hr
    have hn := (List.getElem?_eq_some_iff.1 hr).1
    have hm : ns.getD n 0 = m := by rw [List.getD_eq_getElem?_getD, q1]; rfl
    refine ⟨hn, r0, ?_, q3, q4, q5, by rw [← l1]; exact q6⟩
    subst hC1
    simp only [prCx]
    rw [hm, if_pos (List.mem_of_getElem? q1)]
    exact q2
  have hinj : ∀ n m, n < ns.length → m < ns.length → ns.getD n 0 = ns.getD m 0 → n = m := by
    intro n m h1 h2 h
    rw [List.getD_eq_getElem?_getD, List.getD_eq_getElem?_getD, List.getElem?_eq_getElem h1, List.getElem?_eq_getElem h2] at h
    exact (List.getElem_inj hnd).1 h
  have hlt : ∀ n r, rs[n]? = some r → n < ns.length := fun n r h => by have := (List.getElem?_eq_some_iff.1 h).1; omega
  have hF : (∀ b, C1.F b → C1.F b) ∧ (false = false → C1.F = C1.F) := ⟨fun _ h => h, fun _ => rfl⟩
  obtain ⟨s2, o2⟩ := ren_sat (F' := C1.F) s1 hren (fun n m r r' h1 h2 e => hinj n m (hlt n r h1) (hlt m r' h2) e) hF
  obtain ⟨z1, z2⟩ := ha.spec
  have hw1 : C1.w = C.w := by subst hC1; rfl
  rw [← hw1]
  refine (hG (renCx C1 (fun k => ns.getD k 0) (fun n => rs[n]?) rs.length C1.F) vals s2 rfl (fun n h => h) (hl.trans z1) (fun i u y hu hy => ?_)).mono ?_
  · obtain ⟨x, hx, h⟩ := z2 i y hy
    have hvx := hv i u x hu hx
    rcases h with ⟨rfl, ok⟩ | h
    · exact ren_V hren hF (hvx.ext e1) (by rw [← l1]; exact ok)
    · have h3 := Frz.sound s3 (x := x) (y := y) h (hvx.ext e3)
      refine .fro ?_
      subst hC1
      refine Rd.mono (fun _ _ => rfl) (fun k hk => ?_) h3
      rcases hk with hk | hk
      · exact .inl hk
      · obtain ⟨p, p1, p2, p3⟩ := o3 k hk
        exact .inr ⟨p, p2, p1, p3⟩
  rintro e w' ⟨v', C', rfl, rfl, S', E', Fr', hR', hV, hA'⟩
  have newA : ∀ i, ns.length ≤ i → i < rs'.length → b ≤ upN ns b i ∧ upN ns b i < b + (rs'.length - rs.length) ∧ ¬ C.A (upN ns b i) := by
    intro i h1 h2
    have e : upN ns b i = b + (i - ns.length) := by simp only [upN]; rw [if_neg (by omega)]
    rw [e]
    exact ⟨by omega, by omega, hb _ (by omega) (by omega)⟩
  have oldA : ∀ i, i < ns.length → upN ns b i = ns.getD i 0 := fun i h => by simp only [upN]; rw [if_pos h]
  have inA : ∀ n, n ∈ ns → C.A n := fun n hn => by obtain ⟨r, hr⟩ := hnsR n hn; exact hC.nm n r hr
  have hinj' : ∀ i j, i < rs'.length → j < rs'.length → upN ns b i = upN ns b j → i = j := by
    intro i j hi hj h
    by_cases h1 : i < ns.length
    · by_cases h2 : j < ns.length
      · rw [oldA i h1, oldA j h2] at h; exact hinj i j h1 h2 h
      · rw [oldA i h1] at h
        exact absurd (inA _ (getns i h1)) (h ▸ (newA j (by omega) hj).2.2)
    · by_cases h2 : j < ns.length
      · rw [oldA j h2] at h
        exact absurd (inA _ (getns j h2)) (h ▸ (newA i (by omega) hi).2.2)
      · simp only [upN] at h
        rw [if_neg h1, if_neg h2] at h
        omega
  have hap := applyF_newR (ρ := upN ns b) rs' 0 (applyF C.R (zs.map fun z => (z, none))) (fun j k _ _ h3 h4 e => hinj' j k (by omega) (by omega) e)
  have u : Up C (renCx C1 (fun k => ns.getD k 0) (fun n => rs[n]?) rs.length C1.F) C' (upN ns b) ns zs rs'.length (applyF C.R (wrR ns zs b rs')) := by
    refine ⟨hC, fun i q sz xs h => ?_, hw1, fun k hk => by subst hC1; exact .inl hk, fun k hk => by subst hC1; exact hk, fun k hk => ?_, S', E', Fr', fun i hi => by show i < rs.length; omega, hA', hinj', fun n hn => ?_, fun i h1 h2 => (newA i h1 h2).2.2, fun i hi => ?_, fun n hn => ?_, hz, fun i r hr => hokr i r (by rw [hR'] at hr; exact hr)⟩
    · obtain ⟨xs0, k1, k2, _⟩ := ren_getP hren h
      obtain ⟨r, hr⟩ := getP_some h
      have hi := hlt i r hr
      rw [oldA i hi]
      subst hC1
      exact ⟨xs0, (pr_getP k1).2, k2, rfl⟩
    · obtain ⟨p, p1, p2, p3⟩ := o1 k (o2 k hk)
      exact ⟨p, p2, p1, p3⟩
    · obtain ⟨i, hi⟩ := List.getElem?_of_mem hn
      have hi' := (List.getElem?_eq_some_iff.1 hi).1
      refine ⟨i, by omega, ?_⟩
      rw [oldA i hi', List.getD_eq_getElem?_getD, hi]; rfl
    · rw [wrR, applyF_append]
      have := hap.1 i hi
      rw [Nat.zero_add] at this
      rw [this, hR']
    · rw [wrR, applyF_append, hap.2 n (fun k hk => by rw [Nat.zero_add]; exact hn k hk), applyF_none]
  refine ⟨v', upCx C C' (upN ns b) rs'.length _, rfl, rfl, u.sat, u.ext, u.fr, rfl, u.vrV hV hokv, fun n hn => ?_⟩
  rcases hn with h | ⟨i, hi, rfl⟩
  · exact .inl h
  · by_cases h1 : i < ns.length
    · left
      rw [oldA i h1]
      exact inA _ (getns i h1)
    · have := newA i (by omega) hi
      exact .inr ⟨this.1, this.2.1⟩
end Go.Ev
namespace Go.Ev
open Go
variable {P : Program} {C : Cx} {b : Nat}

/-- Elements written into a place. -/
theorem splice_ok (hC : Sat C) {p : Pl} {r : Root} {sz g off : Nat} {xs ys : List (List V)} {cs : Array Value} {ty : TypeId} {f : Nat → Nat → Value} (hr : C.R p.1 = some r) (hg : getP C.R p = some (sz, xs)) (hio : C.io p = some g) (hh : C.w.heap[g]? = some (.cells cs ty (0, 0)))
    (hon : off + ys.length ≤ xs.length) (hl : ∀ y, y ∈ ys → y.length = sz) (hsz : 0 < sz) (hc : ∀ (i : Nat) y (j : Nat) c, ys[i]? = some y → y[j]? = some c → (f i j).oneCell' = true ∧ VR C (f i j) c ∧ notRow c = true) {w' : World}
    (hw : w' = C.w.setRow g (cs.toList.take (off * sz) ++ flatV ys.length sz f ++ cs.toList.drop (off * sz + ys.length * sz)).toArray) :
    Sat { C with w := w', R := stR C.R p r (copyL xs ys off ys.length) } ∧ Ext C { C with w := w', R := stR C.R p r (copyL xs ys off ys.length) } ∧ Fr C { C with w := w', R := stR C.R p r (copyL xs ys off ys.length) } := by
  obtain ⟨k1, k2, k3⟩ := hC.pl p sz xs hg
  obtain ⟨cs', ty'', m1, m2, m3, m4⟩ := k3 g hio
  rw [hh] at m1
  simp only [Option.some.injEq, Obj.cells.injEq] at m1
  obtain ⟨rfl, rfl, _⟩ := m1
  have hfl : (flatV ys.length sz f).length = ys.length * sz := by simp [flatV]
  have hfit : off * sz + ys.length * sz ≤ cs.size := by
    have := Nat.mul_le_mul_right sz hon
    rw [Nat.add_mul] at this
    omega
  have hcell' : ∀ q, ((cs.toList.take (off * sz) ++ flatV ys.length sz f ++ cs.toList.drop (off * sz + ys.length * sz)).toArray)[q]? = if off * sz ≤ q ∧ q < off * sz + ys.length * sz then (flatV ys.length sz f)[q - off * sz]? else cs[q]? := by
    intro q
    have hsp := splice_get cs.toList (flatV ys.length sz f) (off * sz) q (by rw [hfl, Array.length_toList]; exact hfit)
    rw [hfl] at hsp
    rw [List.getElem?_toArray, hsp]
    simp only [Array.getElem?_toList]
  have hnl : ys.length ≤ ys.length := Nat.le_refl _
  subst hw
  refine sat_store (ys := copyL xs ys off ys.length) hC ⟨rfl, rfl, rfl, by simp [World.setRow]⟩ hr hg (copyL_length hon hnl) (fun y hy => ?_) (fun a y b' s zs h1 h2 => ?_) hio hh (setRow_heap _ _ _ _ _ _ hh) ?_ (fun q hq => setRow_other _ _ _ _ hq) (fun a y m c h1 h2 => ?_)
  · obtain ⟨k, hk⟩ := List.getElem?_of_mem hy
    rw [copyL_get hon hnl] at hk
    split at hk
    · exact hl y (List.mem_of_getElem? hk)
    · exact k1 y (List.mem_of_getElem? hk)
  · rw [copyL_get hon hnl] at h1
    split at h1
    · have := (hc _ _ _ _ h1 h2).2.2
      simp [notRow] at this
    · exact ⟨y, h1, h2⟩
  · simp only [List.size_toArray, List.length_append, List.length_take, List.length_drop, Array.length_toList, hfl]; omega
  · rw [hcell']
    rw [copyL_get hon hnl] at h1
    split at h1
    · rename_i e
      have hyl := hl y (List.mem_of_getElem? h1)
      have hm := (List.getElem?_eq_some_iff.1 h2).1
      obtain ⟨q1, q2, q3⟩ := hc _ _ _ _ h1 h2
      have b1 : off * sz + (a - off) * sz = a * sz := by rw [← Nat.add_mul]; congr 1; omega
      have b2 : (a - off) * sz + sz ≤ ys.length * sz := by
        have := Nat.mul_le_mul_right sz (show a - off + 1 ≤ ys.length by omega)
        rw [Nat.add_mul, Nat.one_mul] at this; exact this
      rw [if_pos (by omega), show a * sz + m - off * sz = (a - off) * sz + m by omega, flatV_get (by omega) (by omega)]
      exact ⟨_, rfl, q1, .inr q2⟩
    · rename_i e
      have hyl := k1 y (List.mem_of_getElem? h1)
      have hm := (List.getElem?_eq_some_iff.1 h2).1
      have ha := (List.getElem?_eq_some_iff.1 h1).1
      obtain ⟨v, n1, n2, n3⟩ := m4 a y m c h1 h2
      have out : ¬ (off * sz ≤ a * sz + m ∧ a * sz + m < off * sz + ys.length * sz) := by
        rintro ⟨e1, e2⟩
        rcases Nat.lt_or_ge a off with l | l
        · have := Nat.mul_le_mul_right sz (show a + 1 ≤ off from l)
          rw [Nat.add_mul, Nat.one_mul] at this
          omega
        · have := Nat.mul_le_mul_right sz (show off + ys.length ≤ a by omega)
          rw [Nat.add_mul] at this
          omega
      rw [if_neg out]
      exact ⟨v, n1, n2, .inl ⟨y, h1, h2, n1⟩⟩

/-- Elements appended within a root. -/
def appinV (i ie : TI) (R : Rs) (s x : V) : Option Out :=
  match elsOf R x with
  | none => none
  | some (sz, ys) =>
    match s with
    | .ref (n, none) 0 len =>
      match R n with
      | some r => some ⟨(sz = ie.sz ∧ r.ty = i.elem ∧ r.sz = ie.sz ∧ ie.sz ≠ 0 ∧ len + ys.length ≤ r.els.length) ∧ ys.all (·.all notRow) = true, .ref (n, none) 0 (len + ys.length), [(n, some { r with els := copyL r.els ys len ys.length })]⟩
      | none => none
    | _ => none

/-- The same, and no name is taken. -/
def OpOK0 (P : Program) (C : Cx) (s : Sem Next) (out : Out) : Prop :=
  ∃ nx v' C', s.run P C.w = .ok nx C'.w ∧ (nx = .value v' ∨ (nx = .skip ∧ v' = undef)) ∧ Sat C' ∧ Ext C C' ∧ Fr C C' ∧ C'.R = applyF C.R out.wr ∧ VR C' v' out.v ∧ ∀ n, C'.A n → C.A n

theorem opok_of0 {s : Sem Next} {out : Out} (h : OpOK0 P C s out) : OpOK P C s b out := by
  obtain ⟨nx, v', C', h1, h2, h3, h4, h5, h6, h7, h8⟩ := h
  exact ⟨nx, v', C', h1, h2, h3, h4, h5, h6, h7, fun n hn => .inl (h8 n hn)⟩

theorem ok_appin0 {t u ty : TypeId} {i ie ju : TI} (hT : TIok P t i) (he : i.elem ≠ 0) (hU : TIok P u ju) (hue : ju.elem ≠ 0) (hE : TIok P i.elem ie) (hz0 : ie.zero.length = ie.sz) (hC : Sat C) {v vx : Value} {s x : V} (hv : VR C v s) (hx : VR C vx x) {out : Out} (h : appinV i ie C.R s x = some out) (hc : out.c) :
    OpOK0 P C (runV (Builtin.append_ #[t, u] ty #[v, vx])) out := by
  unfold appinV at h
  cases h1 : elsOf C.R x with
  | none => simp [h1] at h
  | some q =>
    obtain ⟨sz, ys⟩ := q
    simp only [h1] at h
    split at h
    · rename_i n len
      cases hr : C.R n with
      | none => simp [hr] at h
      | some r =>
        simp only [hr, Option.some.injEq] at h
        subst h
        obtain ⟨⟨rfl, hty, hrs, hne, hle⟩, hrow⟩ := hc
        obtain ⟨base, cap, rfl, hA, hsl⟩ := hv.ref_inv
        have hp := act_of hr
        rw [hrs] at hp
        obtain ⟨o1, o2, o3, o4, o5⟩ := hsl _ _ hp
        obtain ⟨a', cap', f, rfl, c1, c2, c3, c4, c5⟩ := src_rep hC hx h1
        obtain ⟨inf, hi, his, hib⟩ := info_of hE
        have hzf : ie.zero ≠ [] := fun e => by rw [e] at hz0; exact hne hz0.symm
        obtain ⟨z, hz, hzc⟩ : ∃ z, inf.zero = some z ∧ z.cells = ie.zero.toArray := by
          have h1 := hE.zero hzf
          simp only [hi, Option.map_some, Option.some.injEq] at h1
          cases ez : inf.zero with
          | none => simp [ez] at h1
          | some z => simp only [ez, Option.map_some, Option.some.injEq] at h1; exact ⟨z, rfl, h1⟩
        have hlen : ∀ w', (Builtin.lenOf (.slice a' ys.length cap')).run P w' = .ok ys.length w' := fun w' => by simp [Builtin.lenOf]
        have hnews := run_first (P := P) (sz := ie.sz) (cap := cap') c4
        have hfl : (flatV ys.length ie.sz f).length = ys.length * ie.sz := by simp [flatV]
        have hcell : ∀ (i : Nat) y (j : Nat) c, ys[i]? = some y → y[j]? = some c → (f i j).oneCell' = true ∧ VR C (f i j) c ∧ notRow c = true := by
          intro i y j c e1 e2
          have hnr := List.all_eq_true.1 (List.all_eq_true.1 hrow y (List.mem_of_getElem? e1)) c (List.mem_of_getElem? e2)
          obtain ⟨q1, q2⟩ := c5 i y j c e1 e2
          refine ⟨q1, ?_, hnr⟩
          rcases q2 with q2 | ⟨p', o', l', _, q2⟩
          · exact q2
          · cases c <;> first | exact q2 | simp [notRow] at hnr
        have hone : ∀ v ∈ flatV ys.length ie.sz f, v.oneCell' = true := by
          intro v hv
          obtain ⟨q, hq⟩ := List.getElem?_of_mem hv
          obtain ⟨i, j, h1, h2, _, rfl⟩ := flatV_inv hq
          have e1 : ys[i]? = some ys[i] := List.getElem?_eq_getElem h1
          have e2 := c3 _ (List.mem_of_getElem? e1)
          exact (hcell i _ j _ e1 (List.getElem?_eq_getElem (show j < ys[i].length by rw [e2]; exact h2))).1
        cases hio : C.io (n, none) with
        | none =>
          have hx0 := (hC.pl _ _ _ hp).2.1 hio
          obtain ⟨rfl, rfl⟩ := o4 hio
          have hy0 : ys = [] := List.eq_nil_of_length_eq_zero (by rw [hx0] at hle; simp only [List.length_nil] at hle; omega)
          subst hy0
          have hl0 : len = 0 := by omega
          subst hl0
          have hr0 := run_app_nil0 (w := C.w) (u := u) (ty := ty) (hT.elem he) (hU.elem hue) hi hz his hlen hnews rfl (by simp [flatV])
          refine ⟨_, _, C, run_runV hr0, .inl rfl, hC, .refl, .refl C, ?_, ?_, fun _ h => h⟩
          · have : ({ r with els := copyL r.els [] 0 0 } : Root) = r := by simp [copyL]
            simp only [applyF, List.length_nil, this]
            funext m
            by_cases e : m = n
            · rw [if_pos e, e, hr]
            · rw [if_neg e]
          · exact .ref hA hsl
        | some g =>
          obtain ⟨g1, g2, cs, ty', g3, g4⟩ := o5 g hio
          obtain ⟨cs', ty'', m1, m2, m3, m4⟩ := (hC.pl _ _ _ hp).2.2 g hio
          rw [g3] at m1
          simp only [Option.some.injEq, Obj.cells.injEq] at m1
          obtain ⟨rfl, rfl, _⟩ := m1
          have hlc : r.els.length ≤ cap := by
            rw [Nat.zero_add] at g4
            exact Nat.le_of_mul_le_mul_right (by rw [g4]; exact m3) (Nat.pos_of_ne_zero hne)
          have hbase : base = some ⟨g, 0, none⟩ := by
            have := g1 (.inr rfl)
            simpa using this
          subst hbase
          have hfit : len * ie.sz + (flatV ys.length ie.sz f).length ≤ cs.size := by
            rw [hfl, ← Nat.add_mul]; exact Nat.le_trans (Nat.mul_le_mul_right _ hle) m3
          have hr' := run_app_room (u := u) (ty := ty) (hT.elem he) (hU.elem hue) hi hz his hlen hnews g3 hfl hone (show len + ys.length ≤ cap by omega) hfit
          rw [hfl] at hr'
          obtain ⟨S1, S2, S3⟩ := splice_ok (w' := C.w.setRow g (cs.toList.take (len * ie.sz) ++ flatV ys.length ie.sz f ++ cs.toList.drop (len * ie.sz + ys.length * ie.sz)).toArray) hC hr hp hio g3 hle c3 (Nat.pos_of_ne_zero hne) hcell rfl
          refine ⟨_, _, _, run_runV hr', .inl rfl, S1, S2, S3, ?_, ?_, fun _ h => h⟩
          · simp only [applyF]
            funext m
            simp only [stR, setP]
          · refine .ref hA (fun sz xs' hp' => ?_)
            have : getP (stR C.R (n, none) r (copyL r.els ys len ys.length)) (n, none) = some (r.sz, copyL r.els ys len ys.length) := by
              rw [act_of (r := { r with els := copyL r.els ys len ys.length }) (by simp [stR, setP])]
            rw [this] at hp'
            simp only [Option.some.injEq, Prod.mk.injEq] at hp'
            obtain ⟨rfl, rfl⟩ := hp'
            refine ⟨by rw [copyL_length hle (Nat.le_refl _)]; omega, by omega, o3, (by intro hn; have hn : C.io (n, none) = none := hn; rw [hio] at hn; cases hn), fun g' hg' => ?_⟩
            have hg' : C.io (n, none) = some g' := hg'
            rw [hio] at hg'
            cases hg'
            refine ⟨fun _ => by simp, by simp, _, ty', setRow_heap _ _ _ _ _ _ g3, ?_⟩
            rw [hrs]
            simp only [List.size_toArray, List.length_append, List.length_take, List.length_drop, Array.length_toList]
            rw [hfl] at hfit ⊢
            omega
    · cases h

theorem ok_appin {t u ty : TypeId} {i ie ju : TI} (hT : TIok P t i) (he : i.elem ≠ 0) (hU : TIok P u ju) (hue : ju.elem ≠ 0) (hE : TIok P i.elem ie) (hz0 : ie.zero.length = ie.sz) (hC : Sat C) {v vx : Value} {s x : V} (hv : VR C v s) (hx : VR C vx x) {out : Out} (h : appinV i ie C.R s x = some out) (hc : out.c) :
    OpOK P C (runV (Builtin.append_ #[t, u] ty #[v, vx])) b out :=
  opok_of0 (ok_appin0 hT he hU hue hE hz0 hC hv hx h hc)

/-- Elements set to zero. -/
def clearV (ie : TI) (R : Rs) (x : V) : Option Out :=
  match x with
  | .ref (n, none) off k =>
    match R n with
    | some r => some ⟨(r.sz = ie.sz ∧ ie.sz ≠ 0 ∧ ie.zero.length = ie.sz ∧ ie.zero.all (·.oneCell') = true) ∧ off + k ≤ r.els.length, .any, [(n, some { r with els := copyL r.els (List.replicate k (ie.zero.map .val)) off k })]⟩
    | none => none
  | _ => none

theorem ok_clear {t ty : TypeId} {i ie : TI} (hT : TIok P t i) (he : i.elem ≠ 0) (hE : TIok P i.elem ie) (hC : Sat C) {vx : Value} {x : V} (hx : VR C vx x) {out : Out} (h : clearV ie C.R x = some out) (hc : out.c) :
    OpOK P C (runV (Builtin.clear_ #[t] ty #[vx])) b out := by
  unfold clearV at h
  split at h
  · rename_i n off k
    cases hr : C.R n with
    | none => simp [hr] at h
    | some r =>
      simp only [hr, Option.some.injEq] at h
      subst h
      obtain ⟨⟨hrs, hne, hzl, hzo⟩, hle⟩ := hc
      obtain ⟨base, cap, rfl, hA, hsl⟩ := hx.ref_inv
      have hp := act_of hr
      rw [hrs] at hp
      obtain ⟨o1, o2, o3, o4, o5⟩ := hsl _ _ hp
      obtain ⟨z, hz, hzc⟩ := run_zero hE (fun e => by rw [e] at hzl; exact hne hzl.symm) C.w
      have hu := hT.elem he
      have hsame : k = 0 ∨ base = none → (Builtin.clear_ #[t] ty #[.slice base k cap]).run P C.w = .ok (.tuple #[]) C.w := by
        rintro (rfl | rfl)
        · cases base <;> simp [Builtin.clear_, run_underlying hu]
        · simp [Builtin.clear_, run_underlying hu]
      by_cases h0 : k = 0
      · subst h0
        refine ⟨_, _, C, run_runV (hsame (.inl rfl)), .inl rfl, hC, .refl, .refl C, ?_, .fro (.any _), fun _ h => .inl h⟩
        have : ({ r with els := copyL r.els (List.replicate 0 (ie.zero.map .val)) off 0 } : Root) = r := by simp [copyL]
        simp only [applyF, this]
        funext m
        by_cases e : m = n
        · rw [if_pos e, e, hr]
        · rw [if_neg e]
      · cases hio : C.io (n, none) with
        | none =>
          have := (o4 hio).2
          omega
        | some g =>
          obtain ⟨g1, g2, cs, ty', g3, g4⟩ := o5 g hio
          have hb := g1 (.inl (by omega))
          subst hb
          obtain ⟨cs', ty'', m1, m2, m3, m4⟩ := (hC.pl _ _ _ hp).2.2 g hio
          rw [g3] at m1
          simp only [Option.some.injEq, Obj.cells.injEq] at m1
          obtain ⟨rfl, rfl, _⟩ := m1
          have hzs : z.cells.size = ie.sz := by rw [hzc]; simpa using hzl
          let f : Nat → Nat → Value := fun _ j => (ie.zero).getD j undef
          have hys : (List.replicate k (ie.zero.map V.val)).length = k := List.length_replicate
          have hflat : (Builtin.zeroCells z.cells k).toList = flatV k ie.sz f := by
            apply List.ext_getElem?
            intro q
            rw [Array.getElem?_toList]
            by_cases hq : q < k * ie.sz
            · rw [get_zeros _ _ _ (by rw [hzs]; exact hq), hzs, hzc]
              have hpos := Nat.pos_of_ne_zero hne
              have e := flatV_get (f := f) (m := k) (sz := ie.sz) (i := q / ie.sz) (j := q % ie.sz) (Nat.div_lt_of_lt_mul (by rw [Nat.mul_comm]; exact hq)) (Nat.mod_lt _ hpos)
              rw [Nat.div_add_mod'] at e
              rw [e]
              have hl : q % ie.sz < ie.zero.length := by rw [hzl]; exact Nat.mod_lt _ hpos
              simp only [List.getElem?_toArray, f, List.getD_eq_getElem?_getD, List.getElem?_eq_getElem hl, Option.getD_some]
            · rw [List.getElem?_eq_none (by simp [flatV]; omega)]
              rw [Array.getElem?_eq_none]
              simp only [Builtin.zeroCells, Array.size_map, Array.size_range, hzs]; omega
          have hcell : ∀ (i : Nat) y (j : Nat) c, (List.replicate k (ie.zero.map V.val))[i]? = some y → y[j]? = some c → (f i j).oneCell' = true ∧ VR C (f i j) c ∧ notRow c = true := by
            intro a y j c e1 e2
            have := List.mem_of_getElem? e1
            rw [List.mem_replicate] at this
            obtain ⟨_, rfl⟩ := this
            rw [List.getElem?_map, Option.map_eq_some_iff] at e2
            obtain ⟨u, hu1, rfl⟩ := e2
            have : f a j = u := by simp only [f, List.getD_eq_getElem?_getD, hu1, Option.getD_some]
            rw [this]
            exact ⟨List.all_eq_true.1 hzo u (List.mem_of_getElem? hu1), .fro (.val _), rfl⟩
          have hfl : (flatV k ie.sz f).length = k * ie.sz := by simp [flatV]
          have hfit : off * ie.sz + k * ie.sz ≤ cs.size := by rw [← Nat.add_mul]; exact Nat.le_trans (Nat.mul_le_mul_right _ hle) m3
          have hst := run_storeCells_at P g (off * ie.sz) ty' (flatV k ie.sz f) 0 cs C.w g3 (by rw [hfl]; simpa using hfit) (fun v hv => by
            obtain ⟨q, hq⟩ := List.getElem?_of_mem hv
            obtain ⟨i, j, h1, h2, _, rfl⟩ := flatV_inv hq
            have hj : j < ie.zero.length := by omega
            have : f i j = ie.zero[j] := by simp only [f, List.getD_eq_getElem?_getD, List.getElem?_eq_getElem hj, Option.getD_some]
            rw [this]
            exact List.all_eq_true.1 hzo _ (List.getElem_mem hj))
          simp only [Nat.add_zero] at hst
          have hrun : (Builtin.clear_ #[t] ty #[.slice (some ⟨g, off * ie.sz, none⟩) k cap]).run P C.w = .ok (.tuple #[]) (C.w.setRow g (cs.toList.take (off * ie.sz) ++ flatV k ie.sz f ++ cs.toList.drop (off * ie.sz + k * ie.sz)).toArray) := by
            rw [hfl] at hst
            obtain ⟨k', rfl⟩ : ∃ k', k = k' + 1 := ⟨k - 1, by omega⟩
            simp [Builtin.clear_, run_underlying hu, hz, hflat, hst]
          obtain ⟨S1, S2, S3⟩ := splice_ok (f := f) (off := off) (ys := List.replicate k (ie.zero.map V.val)) (w' := C.w.setRow g (cs.toList.take (off * ie.sz) ++ flatV k ie.sz f ++ cs.toList.drop (off * ie.sz + k * ie.sz)).toArray) hC hr hp hio g3 (by rw [hys]; exact hle) (fun y hy => by rw [List.mem_replicate] at hy; rw [hy.2, List.length_map]; exact hzl) (Nat.pos_of_ne_zero hne) hcell (by rw [hys])
          refine ⟨_, _, _, run_runV hrun, .inl rfl, S1, S2, S3, ?_, .fro (.any _), fun _ h => .inl h⟩
          rw [hys]
          simp only [applyF]
          funext m
          simp only [stR, setP]
  · cases h

/-- A slice with an end of its room: its bounds fit. -/
def slice3V (ie : TI) (R : Rs) (x : V) (lo hi mx : V) : Option Out :=
  match x, lo, hi, mx with
  | .ref p off len, .val (.int _ l), .val (.int _ h), .val (.int _ m) =>
    match getP R p with
    | some _ => some ⟨0 ≤ l ∧ l ≤ h ∧ h ≤ m ∧ m ≤ len, .any, []⟩
    | none => none
  | _, _, _, _ => none

theorem ok_slice3 {t : TypeId} {i ie : TI} (hT : TIok P t i) (he : i.elem ≠ 0) (hE : TIok P i.elem ie) (hC : Sat C) {v vl vh vm : Value} {x lo hi mx : V} (hx : VR C v x) (h1 : VR C vl lo) (h2 : VR C vh hi) (h3 : VR C vm mx) {out : Out} (h : slice3V ie C.R x lo hi mx = some out) (hc : out.c) :
    OpOK P C (runV (Instr.sliceAt t v (some vl) (some vh) (some vm))) b out := by
  unfold slice3V at h
  split at h
  · rename_i p off len k1 l k2 r k3 m
    cases hg : getP C.R p with
    | none => simp [hg] at h
    | some q =>
      obtain ⟨sz, xs⟩ := q
      simp only [hg, Option.some.injEq] at h
      subst h
      obtain ⟨c1, c2, c3, c4⟩ := hc
      obtain rfl := h1.val_inv
      obtain rfl := h2.val_inv
      obtain rfl := h3.val_inv
      obtain ⟨a, cap, rfl, hA, hsl⟩ := hx.ref_inv
      obtain ⟨o1, o2, o3, o4, o5⟩ := hsl _ _ hg
      have e1 : m ≤ (cap : Int) := by omega
      have e2 : r ≤ (m.toNat : Int) := by omega
      have e3 : l ≤ (r.toNat : Int) := by omega
      have e4 : 0 ≤ r := by omega
      have e5 : 0 ≤ m := by omega
      have hb : (Instr.sliceBounds true len cap (some (.int k1 l)) (some (.int k2 r)) (some (.int k3 m))).run P C.w = .ok (l.toNat, r.toNat, m.toNat) C.w := by
        have e6 : max m 0 = m := by omega
        have e7 : max r 0 = r := by omega
        simp [Instr.sliceBounds, Instr.sliceBound, asIntOf, e1, e4, e5, c1, c2, c3, e6, e7]
      refine ⟨_, _, C, run_runV (v := .slice (if m.toNat = l.toNat then a else a.map (·.add (l.toNat * ie.sz))) (r.toNat - l.toNat) (m.toNat - l.toNat)) ?_, .inl rfl, hC, .refl, .refl C, rfl, .fro (.any _), fun _ h => .inl h⟩
      simp only [Instr.sliceAt, Sem.run_bind, run_underlying (hT.elem he), Result.andThen_ok, Instr.slice, hb, run_sizeOf hE, Sem.run_pure]
  · cases h

/-- A slice within its root, behind its own end too. -/
def slicexV (ie : TI) (R : Rs) (x lo hi : V) : Option Out :=
  match x, lo, hi with
  | .ref (n, none) off len, .val (.int _ l), .val (.int _ h) =>
    match R n with
    | some r => some ⟨(r.sz = ie.sz ∧ ie.sz ≠ 0) ∧ 0 ≤ l ∧ l ≤ h ∧ (off : Int) + h ≤ r.els.length, .ref (n, none) (off + l.toNat) (h.toNat - l.toNat), []⟩
    | none => none
  | _, _, _ => none

theorem ok_slicex {t : TypeId} {i ie : TI} (hT : TIok P t i) (he : i.elem ≠ 0) (hE : TIok P i.elem ie) (hC : Sat C) {v vl vh : Value} {x lo hi : V} (hx : VR C v x) (h1 : VR C vl lo) (h2 : VR C vh hi) {out : Out} (h : slicexV ie C.R x lo hi = some out) (hc : out.c) :
    OpOK P C (runV (Instr.sliceAt t v (some vl) (some vh) none)) b out := by
  unfold slicexV at h
  split at h
  · rename_i n off len k1 l k2 r
    cases hr : C.R n with
    | none => simp [hr] at h
    | some rt =>
      simp only [hr, Option.some.injEq] at h
      subst h
      obtain ⟨⟨hrs, hne⟩, c1, c2, c3⟩ := hc
      obtain rfl := h1.val_inv
      obtain rfl := h2.val_inv
      obtain ⟨a, cap, rfl, hA, hsl⟩ := hx.ref_inv
      have hp := act_of hr
      rw [hrs] at hp
      obtain ⟨o1, o2, o3, o4, o5⟩ := hsl _ _ hp
      have hcap : off + r.toNat ≤ off + cap := by
        cases hio : C.io (n, none) with
        | none =>
          have hx0 := (hC.pl _ _ _ hp).2.1 hio
          have hx0 : rt.els.length = 0 := by rw [hx0]; rfl
          omega
        | some g =>
          obtain ⟨g1, g2, cs, ty', g3, g4⟩ := o5 g hio
          obtain ⟨cs', ty'', m1, m2, m3, m4⟩ := (hC.pl _ _ _ hp).2.2 g hio
          rw [g3] at m1
          simp only [Option.some.injEq, Obj.cells.injEq] at m1
          obtain ⟨rfl, rfl, _⟩ := m1
          have : rt.els.length ≤ off + cap := Nat.le_of_mul_le_mul_right (by rw [g4]; exact m3) (Nat.pos_of_ne_zero hne)
          omega
      have e1 : 0 ≤ r := by omega
      have e2 : r ≤ (cap : Int) := by omega
      have e3 : max r 0 = r := by omega
      have hb : (Instr.sliceBounds true len cap (some (.int k1 l)) (some (.int k2 r)) none).run P C.w = .ok (l.toNat, r.toNat, cap) C.w := by
        simp [Instr.sliceBounds, Instr.sliceBound, asIntOf, e1, e2, e3, c1, c2]
      have hrun : (Instr.sliceAt t (.slice a len cap) (some (.int k1 l)) (some (.int k2 r)) none).run P C.w = .ok (.slice (if cap = l.toNat then a else a.map (·.add (l.toNat * ie.sz))) (r.toNat - l.toNat) (cap - l.toNat)) C.w := by
        simp only [Instr.sliceAt, Sem.run_bind, run_underlying (hT.elem he), Result.andThen_ok, Instr.slice, hb, run_sizeOf hE, Sem.run_pure]
      refine OpOK.pure hC (run_runV hrun) (.ref hA (fun sz' xs' hp' => ?_))
      rw [hp] at hp'
      simp only [Option.some.injEq, Prod.mk.injEq] at hp'
      obtain ⟨rfl, rfl⟩ := hp'
      refine ⟨by omega, by omega, by omega, fun hn => ?_, fun g hgi => ?_⟩
      · obtain ⟨rfl, rfl⟩ := o4 hn
        constructor
        · split <;> rfl
        · omega
      · obtain ⟨p1, p2, ds, ty, p3, p4⟩ := o5 g hgi
        refine ⟨fun hpos => ?_, ?_, ds, ty, p3, by rw [← p4]; congr 1; omega⟩
        · by_cases hcl : cap = l.toNat
          · have h0 : off = 0 := by omega
            have h1 : l.toNat = 0 := by omega
            rw [if_pos hcl, p1 (.inr h0), h1, Nat.add_zero]
          · rw [if_neg hcl, p1 (.inl (by omega)), Option.map_some, add_mk, ← Nat.add_mul]
        · split
          · exact p2
          · cases a with
            | none => exact absurd rfl p2
            | some ad => simp
  · cases h

/-- Elements of any size copied into own memory. -/
def copyGV (ie : TI) (R : Rs) (d x : V) : Option Out :=
  match elsOf R x with
  | none => none
  | some (sz, ys) =>
    match d with
    | .ref p off len =>
      match R p.1, getP R p with
      | some r, some (sz', xs) => some ⟨(sz = ie.sz ∧ sz' = ie.sz ∧ ie.sz ≠ 0) ∧ ys.all (·.all notRow) = true, .val (goInt (min len ys.length : Nat)), [(p.1, some (setP r p.2 (copyL xs ys off (min len ys.length))))]⟩
      | _, _ => none
    | _ => none

theorem copyL_take {xs ys : List (List V)} {off n : Nat} : copyL xs ys off n = copyL xs (ys.take n) off (ys.take n).length ∨ ys.length < n := by
  by_cases h : ys.length < n
  · exact .inr h
  · left
    have hl : (ys.take n).length = n := by rw [List.length_take]; omega
    rw [hl]
    simp only [copyL, List.take_take, Nat.min_self]

theorem ok_copyG {t u ty : TypeId} {i ie : TI} (hT : TIok P t i) (he : i.elem ≠ 0) (hE : TIok P i.elem ie) (hC : Sat C) {v vx : Value} {d x : V} (hv : VR C v d) (hx : VR C vx x) {out : Out} (h : copyGV ie C.R d x = some out) (hc : out.c) :
    OpOK P C (runV (Builtin.copy_ #[t, u] ty #[v, vx])) b out := by
  unfold copyGV at h
  cases h1 : elsOf C.R x with
  | none => simp [h1] at h
  | some q =>
    obtain ⟨sz, ys⟩ := q
    simp only [h1] at h
    split at h
    · rename_i p off len
      cases hr : C.R p.1 with
      | none => simp [hr] at h
      | some r =>
        cases hg : getP C.R p with
        | none => simp [hr, hg] at h
        | some q =>
          obtain ⟨sz', xs⟩ := q
          simp only [hr, hg, Option.some.injEq] at h
          subst h
          obtain ⟨⟨rfl, rfl, hne⟩, hrow⟩ := hc
          obtain ⟨a, cap, rfl, hA, hsl⟩ := hv.ref_inv
          obtain ⟨o1, o2, o3, o4, o5⟩ := hsl _ _ hg
          obtain ⟨a', cap', f, rfl, c1, c2, c3, c4, c5⟩ := src_rep hC hx h1
          have hu := hT.elem he
          obtain ⟨inf, hi, his, hib⟩ := info_of hE
          generalize hn : min len ys.length = n
          have hmin : Nat.min ys.length len = n := by rw [← hn]; exact Nat.min_comm _ _
          have hload : ∀ w', w'.heap = C.w.heap → (Builtin.firstCells ie.sz n (.slice a' ys.length cap')).run P w' = .ok (flatV n ie.sz f).toArray w' := by
            intro w' hw'
            have := run_first (P := P) (w := C.w) (a := a') (m := n) (cap := cap') (sz := ie.sz) (f := f) (fun hp => by
              obtain ⟨ad, e1, e2⟩ := c4 (by omega)
              exact ⟨ad, e1, fun i j hi' hj => e2 i j (by omega) hj⟩) w' hw'
            have e : Builtin.firstCells ie.sz n (.slice a' ys.length cap') = Builtin.firstCells ie.sz n (.slice a' n cap') := by cases a' <;> rfl
            rw [e]; exact this
          have hfl : (flatV n ie.sz f).length = n * ie.sz := by simp [flatV]
          rcases Nat.eq_zero_or_pos n with h0 | hpos
          · have hl : copyL xs ys off n = xs := by subst h0; simp [copyL]
            rw [hl, setP_same hr hg]
            have hrun : (Builtin.copy_ #[t, u] ty #[.slice a len cap, .slice a' ys.length cap']).run P C.w = .ok (goInt n) C.w := by
              subst h0
              have e : flatV 0 ie.sz f = [] := by simp [flatV]
              have := hload C.w rfl
              rw [e] at this
              cases a <;> simp [Builtin.copy_, run_underlying hu, Builtin.lenOf, sizeOf, typeInfo, hi, his, hmin, this, storeCells]
            refine ⟨_, _, C, run_runV hrun, .inl rfl, hC, .refl, .refl C, ?_, .fro (.val _), fun _ h => .inl h⟩
            simp only [applyF]
            funext m
            by_cases e : m = p.1
            · rw [if_pos e, e, hr]
            · rw [if_neg e]
          · cases hio : C.io p with
            | none => have := (o4 hio).2; omega
            | some g =>
              obtain ⟨g1, g2, cs, ty', g3, g4⟩ := o5 g hio
              have ha := g1 (.inl (by omega))
              subst ha
              obtain ⟨cs', ty'', m1, m2, m3, m4⟩ := (hC.pl _ _ _ hg).2.2 g hio
              rw [g3] at m1
              simp only [Option.some.injEq, Obj.cells.injEq] at m1
              obtain ⟨rfl, rfl, _⟩ := m1
              have hone0 : ∀ (i : Nat) y (j : Nat) c, ys[i]? = some y → y[j]? = some c → (f i j).oneCell' = true ∧ VR C (f i j) c ∧ notRow c = true := by
                intro i y j c e1 e2
                have hnr := List.all_eq_true.1 (List.all_eq_true.1 hrow y (List.mem_of_getElem? e1)) c (List.mem_of_getElem? e2)
                obtain ⟨q1, q2⟩ := c5 i y j c e1 e2
                refine ⟨q1, ?_, hnr⟩
                rcases q2 with q2 | ⟨p', o', l', _, q2⟩
                · exact q2
                · cases c <;> first | exact q2 | simp [notRow] at hnr
              have htl : (ys.take n).length = n := by rw [List.length_take]; omega
              have hget : ∀ (i : Nat) y, (ys.take n)[i]? = some y → ys[i]? = some y := by
                intro i y h
                rw [List.getElem?_take] at h
                split at h
                · exact h
                · cases h
              have hone : ∀ v ∈ flatV n ie.sz f, v.oneCell' = true := by
                intro v hv
                obtain ⟨q, hq⟩ := List.getElem?_of_mem hv
                obtain ⟨i, j, h1, h2, _, rfl⟩ := flatV_inv hq
                have e1 : ys[i]? = some (ys[i]'(by omega)) := List.getElem?_eq_getElem (by omega)
                have e2 := c3 _ (List.mem_of_getElem? e1)
                exact (hone0 i _ j _ e1 (List.getElem?_eq_getElem (by rw [e2]; exact h2))).1
              have hfit : off * ie.sz + n * ie.sz ≤ cs.size := by rw [← Nat.add_mul]; exact Nat.le_trans (Nat.mul_le_mul_right _ (by omega)) m3
              have hst := run_storeCells_at P g (off * ie.sz) ty' (flatV n ie.sz f) 0 cs C.w g3 (by rw [hfl]; simpa using hfit) hone
              simp only [Nat.add_zero] at hst
              rw [hfl] at hst
              have hrun : (Builtin.copy_ #[t, u] ty #[.slice (some ⟨g, off * ie.sz, none⟩) len cap, .slice a' ys.length cap']).run P C.w = .ok (goInt n) (C.w.setRow g (cs.toList.take (off * ie.sz) ++ flatV n ie.sz f ++ cs.toList.drop (off * ie.sz + n * ie.sz)).toArray) := by
                simp [Builtin.copy_, run_underlying hu, Builtin.lenOf, sizeOf, typeInfo, hi, his, hmin, hload C.w rfl, hst]
              obtain ⟨S1, S2, S3⟩ := splice_ok (f := f) (off := off) (ys := ys.take n) (w' := C.w.setRow g (cs.toList.take (off * ie.sz) ++ flatV n ie.sz f ++ cs.toList.drop (off * ie.sz + n * ie.sz)).toArray) hC hr hg hio g3 (by rw [htl]; omega) (fun y hy => c3 y (List.mem_of_mem_take hy)) (Nat.pos_of_ne_zero hne) (fun i y j c e1 e2 => hone0 i y j c (hget i y e1) e2) (by rw [htl])
              have hcl : copyL xs (ys.take n) off (ys.take n).length = copyL xs ys off n := by rw [htl]; simp only [copyL, List.take_take, Nat.min_self]
              rw [hcl] at S1 S2 S3
              exact ⟨_, _, _, run_runV hrun, .inl rfl, S1, S2, S3, rfl, .fro (.val _), fun _ h => .inl h⟩
    · cases h

def isByteV : List V → Bool
  | [.val (.int .u8 _)] => true
  | _ => false
def byteOfV : List V → UInt8
  | [.val (.int .u8 n)] => UInt8.ofNat n.toNat
  | _ => 0
def strOfV (ys : List (List V)) : ByteArray := ⟨(ys.map byteOfV).toArray⟩

/-- Bytes as a string. -/
def bsV (R : Rs) (x : V) : Option Out :=
  match elsOf R x with
  | some (1, ys) => some ⟨ys.all isByteV = true, .val (.string (strOfV ys)), []⟩
  | _ => none

theorem ok_bs {t u : TypeId} {i ie iu : TI} (hT : TIok P t i) (he : i.elem ≠ 0) (hE : TIok P i.elem ie) (hk : ie.ik = some .u8) (hU : TIok P u iu) (hu : iu.k = 2) (hC : Sat C) {vx : Value} {x : V} (hx : VR C vx x) {out : Out} (h : bsV C.R x = some out) (hc : out.c) :
    OpOK P C (runV (convert t u vx)) b out := by
  unfold bsV at h
  cases h1 : elsOf C.R x with
  | none => simp [h1] at h
  | some q =>
    obtain ⟨sz, ys⟩ := q
    rw [h1] at h
    split at h
    · rename_i ys' e
      simp only [Option.some.injEq, Prod.mk.injEq] at e
      obtain ⟨rfl, rfl⟩ := e
      simp only [Option.some.injEq] at h
      subst h
      obtain ⟨a', cap', f, rfl, c1, c2, c3, c4, c5⟩ := src_rep hC hx h1
      have hbyte : ∀ i (hi : i < ys.length), ∃ n, ys[i] = [.val (.int .u8 n)] ∧ f i 0 = .int .u8 n := by
        intro i hi
        have e : ys[i]? = some ys[i] := List.getElem?_eq_getElem hi
        have hb := List.all_eq_true.1 hc _ (List.mem_of_getElem? e)
        generalize hy : ys[i] = y at e hb
        unfold isByteV at hb
        split at hb
        · rename_i n
          obtain ⟨q1, q2⟩ := c5 i _ 0 _ e rfl
          have q2 : VR C (f i 0) (.val (.int .u8 n)) := q2.elim id fun ⟨_, _, _, _, q⟩ => q
          exact ⟨n, rfl, q2.val_inv⟩
        · cases hb
      let ns : List Int := (List.range ys.length).map fun i => match f i 0 with | .int _ n => n | _ => 0
      have hns : ∀ i, i < ys.length → ns[i]? = some (match f i 0 with | .int _ n => n | _ => 0) := by
        intro i hi; simp [ns, hi]
      have hstr : strOfV ys = ns.foldl (fun r n => r.push (UInt8.ofNat n.toNat)) ByteArray.empty := by
        rw [foldl_push_bytes]
        simp only [strOfV]
        congr 1
        apply Array.ext'
        simp only [Array.toList_append, List.toList_toArray]
        show ys.map byteOfV = [] ++ ns.map _
        rw [List.nil_append]
        apply List.ext_getElem?
        intro i
        rw [List.getElem?_map, List.getElem?_map]
        by_cases hi : i < ys.length
        · obtain ⟨n, e1, e2⟩ := hbyte i hi
          rw [hns i hi, List.getElem?_eq_getElem hi, e1, e2]
          rfl
        · rw [List.getElem?_eq_none (by omega), List.getElem?_eq_none (by simp [ns]; omega)]
          rfl
      have hrun : (convert t u (.slice a' ys.length cap')).run P C.w = .ok (.string (strOfV ys)) C.w := by
        rw [run_convert_bytes_string C.w t u i.elem a' ys.length cap' (hT.elem he) (hE.ki _ hk) (hU.ks hu)]
        rcases Nat.eq_zero_or_pos ys.length with h0 | hpos
        · have hy0 : ys = [] := List.eq_nil_of_length_eq_zero h0
          subst hy0
          cases a' with
          | none => rfl
          | some ad =>
            have := run_bytesToString (P := P) C.w ad 0 cap' [] (by have := run_loadCells_list (P := P) C.w ad [] (by simp); simpa using this)
            exact this
        · obtain ⟨ad, rfl, hcell⟩ := c4 hpos
          rw [hstr]
          refine run_bytesToString C.w ad ys.length cap' ns ?_
          have := run_loadCells_list (P := P) C.w ad (ns.map (Value.int .u8)) (fun k v hk => by
            rw [List.getElem?_map, Option.map_eq_some_iff] at hk
            obtain ⟨n, hk, rfl⟩ := hk
            have hlt := (List.getElem?_eq_some_iff.1 hk).1
            have hlt : k < ys.length := by simpa [ns] using hlt
            obtain ⟨n', e1, e2⟩ := hbyte k hlt
            rw [hns k hlt, e2] at hk
            simp only [Option.some.injEq] at hk
            subst hk
            have := hcell k 0 hlt (by omega)
            rw [e2] at this
            simpa using this)
          have hl : (ns.map (Value.int .u8)).length = ys.length := by simp [ns]
          rw [hl] at this
          exact this
      exact OpOK.pure hC (run_runV hrun) (.fro (.val _))
    · cases h

def call2V (tab : Nat → TI) (L : Operand → V) (R : Rs) (b : Nat) (bi : Builtin) (args : List Operand) (ts : List TypeId) : Option Out :=
  match bi, args, ts with
  | .append, [s, x], [t, u] => grd (slT tab t ∧ slT tab u) (appinV (tab t) (tab (tab t).elem) R (L s) (L x))
  | .clear, [x], [t] => grd (slT tab t) (clearV (tab (tab t).elem) R (L x))
  | .copy, [d, s], [t, _] => grd (slT tab t) (copyGV (tab (tab t).elem) R (L d) (L s))
  | _, _, _ => none

/-- Operations besides. -/
def act2 (tab : Nat → TI) (L : Operand → V) (R : Rs) (b : Nat) (o : Op) : Option Out :=
  match o with
  | .slice t x (some lo) (some hi) (some mx) => grd (slT tab t) (slice3V (tab (tab t).elem) R (L x) (L lo) (L hi) (L mx))
  | .slice t x (some lo) (some hi) none => grd (slT tab t) (slicexV (tab (tab t).elem) R (L x) (L lo) (L hi))
  | .convert t u x => grd ((tab t).sz ≠ 0 ∧ (tab t).elem ≠ 0 ∧ (tab (tab t).elem).sz ≠ 0 ∧ (tab (tab t).elem).ik = some .u8 ∧ (tab u).sz ≠ 0 ∧ (tab u).k = 2) (bsV R (L x))
  | .call ⟨.builtin bi, args, ts⟩ => call2V tab L R b bi args.toList ts.toList
  | _ => none

theorem act2_sound {tab : Nat → TI} (hT : TabOK P tab) (hC : Sat C) {ρ : Operand → Value} {L : Operand → V} (hL : ∀ x, VR C (ρ x) (L x)) (hb : ¬ C.A b) {o : Oper} {out : Out} (h : act2 tab L C.R b o.op = some out) (hc : out.c) : OpOK P C (execOp ρ o) b out := by
  unfold execOp
  generalize o.op = op at h
  unfold act2 at h
  split at h
  · rename_i t x lo hi mx
    obtain ⟨p, o', h1, h2, h3⟩ := grd_some (P := P) (C := C) (b := b) h hc
    exact h3 (ok_slice3 (hT t p.1) p.2.1 (hT _ p.2.2.1) hC (hL x) (hL lo) (hL hi) (hL mx) h1 h2)
  · rename_i t x lo hi
    obtain ⟨p, o', h1, h2, h3⟩ := grd_some (P := P) (C := C) (b := b) h hc
    exact h3 (ok_slicex (hT t p.1) p.2.1 (hT _ p.2.2.1) hC (hL x) (hL lo) (hL hi) h1 h2)
  · rename_i t u x
    obtain ⟨p, o', h1, h2, h3⟩ := grd_some (P := P) (C := C) (b := b) h hc
    exact h3 (ok_bs (hT t p.1) p.2.1 (hT _ p.2.2.1) p.2.2.2.1 (hT u p.2.2.2.2.1) p.2.2.2.2.2 hC (hL x) h1 h2)
  · rename_i bi args ts
    unfold call2V at h
    split at h
    · rename_i s x t u e1 e2
      obtain ⟨p, o', h1, h2, h3⟩ := grd_some (P := P) (C := C) (b := b) h hc
      have a1 : args = #[s, x] := Array.ext' e1
      have a2 : ts = #[t, u] := Array.ext' e2
      subst a1; subst a2
      have := ok_appin (b := b) (ty := o.type) (hT t p.1.1) p.1.2.1 (hT u p.2.1) p.2.2.1 (hT _ p.1.2.2.1) p.1.2.2.2 hC (hL s) (hL x) h1 h2
      refine h3 ?_
      simpa [resolve, invoke, builtin, runV] using this
    · rename_i x t e1 e2
      obtain ⟨p, o', h1, h2, h3⟩ := grd_some (P := P) (C := C) (b := b) h hc
      have a1 : args = #[x] := Array.ext' e1
      have a2 : ts = #[t] := Array.ext' e2
      subst a1; subst a2
      have := ok_clear (b := b) (ty := o.type) (hT t p.1) p.2.1 (hT _ p.2.2.1) hC (hL x) h1 h2
      refine h3 ?_
      simpa [resolve, invoke, builtin, runV] using this
    · rename_i d s t u e1 e2
      obtain ⟨p, o', h1, h2, h3⟩ := grd_some (P := P) (C := C) (b := b) h hc
      have a1 : args = #[d, s] := Array.ext' e1
      have a2 : ts = #[t, u] := Array.ext' e2
      subst a1; subst a2
      have := ok_copyG (P := P) (b := b) (t := t) (u := u) (ty := o.type) (hT t p.1) p.2.1 (hT _ p.2.2.1) hC (hL d) (hL s) h1 h2
      refine h3 ?_
      simpa [resolve, invoke, builtin, runV] using this
    · cases h
  · cases h


def valC : V → Option Value
  | .val u => some u
  | _ => none

/-- What a value without memory is. -/
def valOf : V → Option Value
  | .val u => some u
  | .agg cs => (cs.mapM valC).map fun us => .agg us.toArray
  | _ => none

theorem mapM_val : ∀ {cs : List V} {us : List Value}, (cs.mapM valC) = some us → cs = us.map V.val
  | [], us, h => by simp at h; subst h; rfl
  | c :: cs, us, h => by
    cases c with
    | val u =>
      simp only [List.mapM_cons, valC, Option.bind_eq_bind, Option.bind_some] at h
      cases e : (cs.mapM valC) with
      | none => rw [e] at h; simp at h
      | some vs =>
        rw [e] at h
        simp at h
        subst h
        rw [mapM_val e]; rfl
    | _ => simp [List.mapM_cons, valC] at h

theorem valOf_ok {v u : Value} {x : V} (hv : VR C v x) (h : valOf x = some u) : v = u := by
  cases x with
  | val w => simp only [valOf, Option.some.injEq] at h; subst h; exact hv.val_inv
  | agg cs =>
    simp only [valOf, Option.map_eq_some_iff] at h
    obtain ⟨us, h1, rfl⟩ := h
    have h2 := mapM_val h1
    subst h2
    obtain ⟨vs, rfl, h3, h4⟩ := hv.agg_inv
    congr 1
    apply Array.ext'
    apply List.ext_getElem?
    intro k
    by_cases hk : k < us.length
    · have e1 : vs[k]? = some (vs[k]'(by simp at h3; omega)) := Array.getElem?_eq_getElem _
      have e2 : us[k]? = some us[k] := List.getElem?_eq_getElem hk
      have := (h4 k _ _ e1 (by rw [List.getElem?_map, e2]; rfl)).val_inv
      rw [Array.getElem?_toList, e1, this, List.toList_toArray, e2]
    · rw [Array.getElem?_toList, Array.getElem?_eq_none (by simp at h3; omega), List.toList_toArray, List.getElem?_eq_none (by omega)]
  | _ => simp [valOf] at h

/-- An operation on values without memory comes to a value, in whatever world. -/
def PureV (P : Program) (L : Operand → V) (o : Oper) (r : Value) : Prop := ∀ ρ : Operand → Value, (∀ x, x ∈ o.op.operands.toList → ∀ u, valOf (L x) = some u → ρ x = u) → ∀ w, (execOp ρ o).run P w = .ok (.value r) w

theorem pureV_ok (hC : Sat C) {ρ : Operand → Value} {L : Operand → V} (hL : ∀ x, VR C (ρ x) (L x)) {o : Oper} {r : Value} (h : PureV P L o r) : OpOK P C (execOp ρ o) b ⟨True, .val r, []⟩ :=
  ⟨_, r, C, h ρ (fun x _ u hu => valOf_ok (hL x) hu) C.w, .inl rfl, hC, .refl, .refl C, rfl, .fro (.val r), fun _ h => .inl h⟩

theorem pureV_congr {L L' : Operand → V} {o : Oper} {r : Value} (hL : ∀ x, x ∈ o.op.operands.toList → L x = L' x) (h : PureV P L o r) : PureV P L' o r :=
  fun ρ hr w => h ρ (fun x hx u hu => hr x hx u (by rw [← hL x hx]; exact hu)) w

end Go.Ev
namespace Go.Ev
open Go Go.RowKit
variable {C : Cx}

def preR (r : Root) (k : Nat) : Root := { r with els := r.els.take k }

/-- The first elements of a root alone, under a new name. -/
theorem pre_ok (hC : Sat C) {n b k : Nat} {r : Root} (hn : C.R n = some r) (hb : ¬ C.A b) :
    ∃ C', C'.w = C.w ∧ Sat C' ∧ Ext C C' ∧ Fr C C' ∧ (C'.R = fun y => if y = b then some (preR r k) else if y ∈ [n] then none else C.R y) ∧ (∀ y, C'.A y → C.A y ∨ y = b) ∧
      ∀ v off len, off + len ≤ k → VR C v (.ref (n, none) off len) → VR C' v (.ref (b, none) off len) := by
  let C' := mkCx C C.w [n] b (preR r k) (fun q => C.io (n, q))
  have hRb : C'.R b = some (preR r k) := if_pos rfl
  have hio : ∀ q, C'.io (b, q) = C.io (n, q) := fun q => if_pos rfl
  have gn : getP C.R (n, none) = some (r.sz, r.els) := act_of hn
  have tk : ∀ (i : Nat) x, (r.els.take k)[i]? = some x → i < k ∧ r.els[i]? = some x := by
    intro i x h
    rw [List.getElem?_take] at h
    split at h
    · exact ⟨by assumption, h⟩
    · cases h
  have new : ∀ q sz xs, getP C'.R (b, q) = some (sz, xs) → (q = none ∧ sz = r.sz ∧ xs = r.els.take k) ∨ (q ≠ none ∧ getP C.R (n, q) = some (sz, xs)) := by
    intro q sz xs h
    cases q with
    | none =>
      rw [act_of hRb] at h
      simp only [Option.some.injEq, Prod.mk.injEq] at h
      exact .inl ⟨rfl, h.1.symm, h.2.symm⟩
    | some ij =>
      obtain ⟨i, j⟩ := ij
      obtain ⟨x, h1, h2⟩ := getP_row hRb h
      exact .inr ⟨by simp, getP_cell hn (tk i x h1).2 h2⟩
  have act : ∀ q, Act? C' (b, q) → Act? C (n, q) := by
    intro q h
    obtain ⟨⟨sz, xs⟩, e⟩ := Option.isSome_iff_exists.1 h
    rcases new q sz xs e with ⟨rfl, _, _⟩ | ⟨_, h1⟩
    · unfold Act?; rw [gn]; rfl
    · unfold Act?; rw [h1]; rfl
  have slx : ∀ q off len a cap, (q = none → off + len ≤ k) → (∀ sz xs, getP C.R (n, q) = some (sz, xs) → SlAt C (n, q) sz xs a off len cap) → ∀ sz xs, getP C'.R (b, q) = some (sz, xs) → SlAt C' (b, q) sz xs a off len cap := by
    intro q off len a cap hq h sz xs hg
    rcases new q sz xs hg with ⟨rfl, rfl, rfl⟩ | ⟨_, h1⟩
    · obtain ⟨o1, o2, o3, o4, o5⟩ := h _ _ gn
      have := hq rfl
      exact ⟨by rw [List.length_take]; omega, o2, o3, fun h => o4 (hio none ▸ h), fun g hg => o5 g (hio none ▸ hg)⟩
    · obtain ⟨o1, o2, o3, o4, o5⟩ := h _ _ h1
      exact ⟨o1, o2, o3, fun h => o4 (hio q ▸ h), fun g hg => o5 g (hio q ▸ hg)⟩
  obtain ⟨S1, S2, S3⟩ := mk_sat (D := [n]) (r := preR r k) (pl := fun q => C.io (n, q)) hC hb ⟨rfl, rfl, rfl, Nat.le_refl _⟩ (fun _ _ _ => rfl)
    (fun he q sz xs hg => by
      rcases new q sz xs hg with ⟨rfl, rfl, rfl⟩ | ⟨hq, h1⟩
      · obtain ⟨k1, k2, k3⟩ := hC.pl _ _ _ gn
        refine ⟨fun x hx => k1 x (List.mem_of_mem_take hx), fun h => by rw [k2 (hio none ▸ h)]; exact List.take_nil, fun g hgi => ?_⟩
        obtain ⟨cs, ty, m1, m2, m3, m4⟩ := k3 g (hio none ▸ hgi)
        refine ⟨cs, ty, m1, fun _ r' hr' => ?_, Nat.le_trans (Nat.mul_le_mul_right _ (by rw [List.length_take]; omega)) m3, fun a x c d h1 h2 => ?_⟩
        · have : r' = preR r k := Option.some.inj (hr'.symm.trans hRb)
          subst this
          exact m2 rfl r hn
        · obtain ⟨v, n1, n2, n3⟩ := m4 a x c d (tk a x h1).2 h2
          refine ⟨v, n1, n2, ?_⟩
          cases d with
          | row s us =>
            obtain ⟨n4, n5⟩ := n3
            obtain ⟨a', cap, rfl, hA, hsl⟩ := n5.ref_inv
            exact ⟨rfl, .ref (.inr rfl) (slx _ _ _ _ _ (fun h => by cases h) hsl)⟩
          | _ => exact VR.ext he n3
      · obtain ⟨k1, k2, k3⟩ := hC.pl _ _ _ h1
        refine ⟨k1, fun h => k2 (hio q ▸ h), fun g hgi => ?_⟩
        obtain ⟨cs, ty, m1, m2, m3, m4⟩ := k3 g (hio q ▸ hgi)
        refine ⟨cs, ty, m1, fun h => absurd h hq, m3, fun a x c d h1 h2 => ?_⟩
        obtain ⟨v, n1, n2, n3⟩ := m4 a x c d h1 h2
        refine ⟨v, n1, n2, ?_⟩
        cases d <;> first | exact VR.ext he n3 | exact absurd n3.1 hq)
    (fun q q' g hq hq' h1 h2 => by
      have := hC.inj _ _ g (act q hq) (act q' hq') h1 h2
      simp only [Prod.mk.injEq] at this
      exact this.2)
    (fun q g hq h1 => .inr ⟨_, act q hq, by simp, h1⟩)
  refine ⟨C', rfl, S1, S2, S3, rfl, fun y hy => hy, fun v off len hle hv => ?_⟩
  obtain ⟨a', cap, rfl, hA, hsl⟩ := hv.ref_inv
  exact .ref (.inr rfl) (slx _ _ _ _ _ (fun _ => hle) hsl)

end Go.Ev
namespace Go.Ev
open Go
variable {P : Program} {C : Cx} {b : Nat}

/-- Further things that an operation may come to. -/
inductive ActX (P : Program) (tab : Nat → TI) (L : Operand → V) (R : Rs) (b : Nat) (o : Oper) : Out → Prop
  | appf {s x : Operand} {t u : TypeId} {n len sz : Nat} {r : Root} {ys : List (List V)} (ho : o.op = .call ⟨.builtin .append, #[s, x], #[t, u]⟩) (hs : L s = .ref (n, none) 0 len) (hr : R n = some r) (hx : elsOf R (L x) = some (sz, ys)) (hS : slT tab t ∧ slT tab u)
      (hc : (sz = (tab (tab t).elem).sz ∧ r.ty = (tab t).elem ∧ r.sz = (tab (tab t).elem).sz ∧ (tab (tab t).elem).sz ≠ 0 ∧ len + ys.length ≤ r.els.length) ∧ ys.all (·.all notRow) = true) : ActX P tab L R b o ⟨True, .ref (b, none) 0 (len + ys.length), [(n, none), (b, some { r with els := r.els.take len ++ ys })]⟩
  | arr {t e : TypeId} {x i : Operand} {len k j z : Nat} {p : Pl} {kd : IntKind} {q : Int} (ho : o.op = .indexAddr t x i) (hu : P.underlying t = some (.array len e)) (hx : L x = .ptr p k j) (hi : L i = .val (.int kd q)) (hq : 0 ≤ q ∧ q < len) (hz : (P.info? e).map (·.size) = some z) : ActX P tab L R b o ⟨True, .ptr p k (j + q.toNat * z), []⟩

theorem actx_sound {tab : Nat → TI} (hT : TabOK P tab) (hC : Sat C) {ρ : Operand → Value} {L : Operand → V} (hL : ∀ x, VR C (ρ x) (L x)) (hb : ¬ C.A b) {o : Oper} {out : Out} (h : ActX P tab L C.R b o out) : OpOK P C (execOp ρ o) b out := by
  cases h with
  | @appf s x t u n len sz r ys ho hs hr hx hS hc =>
    have ha : appinV (tab t) (tab (tab t).elem) C.R (L s) (L x) = some ⟨(sz = (tab (tab t).elem).sz ∧ r.ty = (tab t).elem ∧ r.sz = (tab (tab t).elem).sz ∧ (tab (tab t).elem).sz ≠ 0 ∧ len + ys.length ≤ r.els.length) ∧ ys.all (·.all notRow) = true, .ref (n, none) 0 (len + ys.length), [(n, some { r with els := copyL r.els ys len ys.length })]⟩ := by
      simp only [appinV, hx, hs, hr]
    have h0 := ok_appin0 (P := P) (ty := o.type) (hT t hS.1.1) hS.1.2.1 (hT u hS.2.1) hS.2.2.1 (hT _ hS.1.2.2.1) hS.1.2.2.2 hC (hL s) (hL x) ha hc
    obtain ⟨nx, v', C1, e1, e2, e3, e4, e5, e6, e7, e8⟩ := h0
    have hn1 : C1.R n = some { r with els := copyL r.els ys len ys.length } := by rw [e6]; simp [applyF]
    obtain ⟨C2, f1, f2, f3, f4, f5, f6, f7⟩ := pre_ok (k := len + ys.length) e3 hn1 (fun h => hb (e8 b h))
    refine ⟨nx, v', C2, ?_, e2, f2, e4.trans f3, e5.trans f4, ?_, ?_, fun y hy => (f6 y hy).imp (e8 y) id⟩
    · rw [f1]
      unfold execOp
      rw [ho]
      have := e1
      simpa [resolve, invoke, builtin, runV] using this
    · rw [f5]
      funext y
      simp only [applyF]
      by_cases c1 : y = b
      · rw [if_pos c1, if_pos c1]
        simp only [preR]
        congr 2
        have hl := hc.1.2.2.2.2
        rw [copyL, List.take_of_length_le (Nat.le_refl _), List.take_append_of_le_length (by simp only [List.length_append, List.length_take]; omega), List.take_of_length_le (by simp only [List.length_append, List.length_take]; omega)]
      · rw [if_neg c1, if_neg c1, e6]
        by_cases c2 : y = n
        · rw [if_pos (by simp [c2]), if_pos c2]
        · rw [if_neg (by simp [c2]), if_neg c2]
          simp only [applyF]
          rw [if_neg c2]
    · exact f7 v' 0 (len + ys.length) (by omega) e7
  | @arr t e x i len k j z p kd q ho hu hx hi hq hz =>
    have h1 := hL x
    rw [hx] at h1
    have h2 := hL i
    rw [hi] at h2
    obtain ⟨ad, e1, hA, hp⟩ := h1.ptr_inv
    have e2 := h2.val_inv
    unfold execOp
    rw [ho]
    dsimp only
    rw [e1, e2]
    have hs : (sizeOf e).run P C.w = .ok z C.w := by
      cases h : P.info? e with
      | none => simp [h] at hz
      | some inf => simp [h] at hz; simp [sizeOf, typeInfo, h, hz]
    refine OpOK.pure hC (v' := .pointer (some (ad.add (q.toNat * z)))) ?_ (.ptr hA fun sz xs hg => ?_)
    · simp [Instr.indexAt, asIntOf, run_underlying hu, Instr.sureAddr, hq.1, hq.2, hs]
    · obtain ⟨g, g1, g2⟩ := hp sz xs hg
      refine ⟨g, g1, ?_⟩
      rw [g2, add_mk]
      congr 1; omega

theorem actx_congr {tab : Nat → TI} {L L' : Operand → V} {R R' : Rs} {o : Oper} {out : Out} (hL : ∀ x, x ∈ o.op.operands.toList → L x = L' x) (hR : ∀ x, x ∈ o.op.operands.toList → ∀ p off len, L x = .ref p off len → R p.1 = R' p.1) (h : ActX P tab L R b o out) : ActX P tab L' R' b o out := by
  cases h with
  | @appf s x t u n len sz r ys ho hs hr hx hS hc =>
    have m1 : s ∈ o.op.operands.toList := by rw [ho]; simp [Op.operands, Call.operands]
    have m2 : x ∈ o.op.operands.toList := by rw [ho]; simp [Op.operands, Call.operands]
    refine .appf ho (by rw [← hL s m1]; exact hs) (by rw [← hR s m1 _ _ _ hs]; exact hr) ?_ hS hc
    rw [← hL x m2]
    unfold elsOf at hx ⊢
    cases e : L x with
    | ref p off len' =>
      rw [e] at hx
      dsimp only at hx ⊢
      rw [← getP_congr (hR x m2 p off len' e)]
      exact hx
    | list sz' xs => rw [e] at hx; exact hx
    | _ => rw [e] at hx; cases hx
  | @arr t e x i len k j z p kd q ho hu hx hi hq hz =>
    have m1 : x ∈ o.op.operands.toList := by rw [ho]; simp [Op.operands]
    have m2 : i ∈ o.op.operands.toList := by rw [ho]; simp [Op.operands]
    exact .arr ho hu (by rw [← hL x m1]; exact hx) (by rw [← hL i m2]; exact hi) hq hz

/-- What an operation may come to. -/
def ActS (P : Program) (tab : Nat → TI) (L : Operand → V) (R : Rs) (b : Nat) (o : Oper) (out : Out) : Prop :=
  act tab L R b o.op = some out ∨ act2 tab L R b o.op = some out ∨ (∃ r, PureV P L o r ∧ out = ⟨True, .val r, []⟩) ∨ ActX P tab L R b o out

theorem acts_sound {tab : Nat → TI} (hT : TabOK P tab) (hC : Sat C) {ρ : Operand → Value} {L : Operand → V} (hL : ∀ x, VR C (ρ x) (L x)) (hb : ¬ C.A b) {o : Oper} {out : Out} (h : ActS P tab L C.R b o out) (hc : out.c) : OpOK P C (execOp ρ o) b out := by
  rcases h with h | h | ⟨r, h, rfl⟩ | h
  · exact act_sound hT hC hL hb h hc
  · exact act2_sound hT hC hL hb h hc
  · exact pureV_ok hC hL h
  · exact actx_sound hT hC hL hb h
end Go.Ev
namespace Go.Ev
open Go Go.RowKit
variable {P : Program} {b : Nat}

def namesC : V → List Nat
  | .ref p _ _ => [p.1]
  | .ptr p _ _ => [p.1]
  | _ => []
def namesA : V → List Nat
  | .agg cs => cs.flatMap namesC
  | x => namesC x
def namesV : V → List Nat
  | .clo _ cs => cs.flatMap namesA
  | x => namesA x

theorem namesC_A {c : V} {n : Nat} (h : n ∈ namesC c) : n ∈ namesA c := by
  cases c <;> first | exact h | (simp [namesC] at h)

theorem names_cells {x c : V} (h : c ∈ x.cells) : ∀ n, n ∈ namesC c → n ∈ namesV x := by
  intro n hn
  cases x with
  | agg cs => exact List.mem_flatMap.2 ⟨c, h, hn⟩
  | _ => simp only [V.cells, List.mem_singleton] at h; subst h; first | exact namesC_A hn | (simp [namesC] at hn)

theorem getP_agree {R R' : Rs} {p : Pl} (h : R p.1 = R' p.1) : getP R p = getP R' p := getP_congr h

theorem elsOf_congr {R R' : Rs} {x : V} (h : ∀ n, n ∈ namesV x → R n = R' n) : elsOf R x = elsOf R' x := by
  cases x <;> first | rfl | (simp only [elsOf]; rw [getP_agree (h _ (by simp [namesV, namesA, namesC]))])

theorem srcK_congr {R R' : Rs} {ie : TI} {n : Nat} {x : V} {ys} (h : ∀ n, n ∈ namesV x → R n = R' n) : srcK ie R n x ys = srcK ie R' n x ys := by
  unfold srcK
  split
  · rfl
  · rw [h _ (by simp [namesV, namesA, namesC])]
  · rfl
  · rfl

theorem absCell_congr {R R' : Rs} {c : V} (h : ∀ n, n ∈ namesC c → R n = R' n) : absCell R c = absCell R' c := by
  unfold absCell
  split
  · rw [h _ (by simp [namesC])]
  · rfl

theorem absCond_congr {R R' : Rs} {c : V} (h : ∀ n, n ∈ namesC c → R n = R' n) : absCond R c = absCond R' c := by
  unfold absCond
  split
  · rw [h _ (by simp [namesC])]
  · rfl
  · rfl

theorem act_congr {tab : Nat → TI} {L L' : Operand → V} {R R' : Rs} {o : Op} (hL : ∀ x, x ∈ o.operands.toList → L x = L' x) (h : ∀ x, x ∈ o.operands.toList → ∀ n, n ∈ namesV (L x) → R n = R' n) : act tab L R b o = act tab L' R' b o := by
  cases o with
  | move x => simp only [act, hL x (by simp [Op.operands])]
  | assign x => simp only [act, hL x (by simp [Op.operands])]
  | nilCheck x => simp only [act, hL x (by simp [Op.operands])]
  | pick c x y => simp only [act, hL c (by simp [Op.operands]), hL x (by simp [Op.operands]), hL y (by simp [Op.operands])]
  | alloc t => rfl
  | box t x => simp only [act, hL x (by simp [Op.operands])]
  | build t ps =>
    simp only [act]
    congr 2
    refine List.map_congr_left fun p hp => ?_
    rw [hL p.2 (by simp only [Op.operands, List.toList_toArray]; exact List.mem_map.2 ⟨p, hp, rfl⟩)]
  | buildSlice t len ps =>
    have hmem : ∀ p, p ∈ ps.toList → p.2 ∈ (Op.buildSlice t len ps).operands.toList := fun p hp => by simp only [Op.operands, List.toList_toArray]; exact List.mem_map.2 ⟨p, hp, rfl⟩
    have e1 : (ps.toList.map fun p => (p.1, L p.2)) = ps.toList.map fun p => (p.1, L' p.2) := List.map_congr_left fun p hp => by rw [hL p.2 (hmem p hp)]
    simp only [act]
    rw [← e1]
    have hc : ∀ x, x ∈ cellsOf ((ps.toList.map fun p => (p.1, L p.2)).map (·.2)) → ∀ c, c ∈ x → ∀ n, n ∈ namesC c → R n = R' n := by
      intro x hx c hcx n hn
      simp only [cellsOf, List.map_map, List.mem_map, Function.comp] at hx
      obtain ⟨p, hp, rfl⟩ := hx
      exact h p.2 (hmem p hp) n (names_cells hcx n hn)
    have e2 : ∀ els : List (List V), (∀ x, x ∈ els → ∀ c, c ∈ x → ∀ n, n ∈ namesC c → R n = R' n) → els.flatten.map (absCond R) = els.flatten.map (absCond R') ∧ els.map (·.map (absCell R)) = els.map (·.map (absCell R')) := by
      intro els he
      refine ⟨List.map_congr_left fun c hcm => ?_, List.map_congr_left fun x hx => List.map_congr_left fun c hcm => absCell_congr (he x hx c hcm)⟩
      obtain ⟨x, hx, hcx⟩ := List.mem_flatten.1 hcm
      exact absCond_congr (he x hx c hcx)
    obtain ⟨e3, e4⟩ := e2 _ hc
    simp only [buildSliceV, e3, e4]
  | load t a =>
    simp only [act, ← hL a (by simp [Op.operands])]
    have := h a (by simp [Op.operands])
    congr 1
    unfold loadV
    cases hx : L a <;> first | rfl | (rw [hx] at this; dsimp only; rw [getP_agree (this _ (by simp [namesV, namesA, namesC]))])
  | store t a x =>
    simp only [act, ← hL a (by simp [Op.operands]), ← hL x (by simp [Op.operands])]
    have := h a (by simp [Op.operands])
    congr 1
    unfold storeV
    cases hx : L a <;> first | rfl | (rw [hx] at this; dsimp only; rw [getP_agree (this _ (by simp [namesV, namesA, namesC])), this _ (by simp [namesV, namesA, namesC])])
  | fieldAddr s x f => simp only [act, hL x (by simp [Op.operands])]
  | field s x f => simp only [act, hL x (by simp [Op.operands])]
  | indexAddr t x i =>
    simp only [act, ← hL x (by simp [Op.operands]), ← hL i (by simp [Op.operands])]
    have := h x (by simp [Op.operands])
    congr 1
    cases hx : L x with
    | ref p off len =>
      rw [hx] at this
      have e : getP R p = getP R' p := getP_agree (this _ (by simp [namesV, namesA, namesC]))
      cases L i with
      | val u => cases u <;> first | rfl | simp only [indexAddrV, e]
      | _ => rfl
    | list sz xs =>
      cases L i with
      | val u => cases u <;> rfl
      | _ => rfl
    | _ => rfl
  | extract x n => simp only [act, hL x (by simp [Op.operands])]
  | binOp op t x y u =>
    simp only [act, ← hL x (by simp [Op.operands]), ← hL y (by simp [Op.operands])]
    have := h x (by simp [Op.operands])
    congr 2
    cases hx : L x with
    | ref p off len =>
      rw [hx] at this
      simp only [eqNilV]
      rw [getP_agree (R := R) (R' := R') (p := p) (this _ (by simp [namesV, namesA, namesC]))]
    | val u => cases u <;> rfl
    | _ => rfl
  | unOp op t x => simp only [act, hL x (by simp [Op.operands])]
  | convert s d x => simp only [act, hL x (by simp [Op.operands])]
  | makeSlice t l c => simp only [act, hL l (by simp [Op.operands]), hL c (by simp [Op.operands])]
  | slice t x lo hi mx =>
    cases mx with
    | some _ => rfl
    | none =>
      have e1 : lo.map L = lo.map L' := by cases lo with
        | none => rfl
        | some l => simp only [Option.map_some]; rw [hL l (by simp [Op.operands])]
      have e2 : hi.map L = hi.map L' := by cases hi with
        | none => rfl
        | some l => simp only [Option.map_some]; rw [hL l (by simp [Op.operands])]
      simp only [act, ← hL x (by simp [Op.operands]), ← e1, ← e2]
      have := h x (by simp [Op.operands])
      congr 2
      unfold sliceV
      cases hx : L x <;> first | rfl | (rw [hx] at this; dsimp only; rw [getP_agree (this _ (by simp [namesV, namesA, namesC]))])
  | makeFunc fn first caps =>
    have e1 : first.toList.map L = first.toList.map L' := List.map_congr_left fun p hp => hL p (by simp [Op.operands]; exact .inl (by simpa using hp))
    have e2 : caps.toList.map L = caps.toList.map L' := List.map_congr_left fun p hp => hL p (by simp [Op.operands]; exact .inr (by simpa using hp))
    simp only [act, e1, e2]
  | call c =>
    obtain ⟨callee, args, ts⟩ := c
    cases callee with
    | builtin bi =>
      have ho : (Op.call ⟨.builtin bi, args, ts⟩).operands.toList = args.toList := by simp [Op.operands, Call.operands]
      rw [ho] at hL h
      simp only [act]
      unfold callV
      split
      · rename_i x t e1 e2
        rw [hL x (by rw [e1]; simp)]
      · rename_i s x t u e1 e2
        rw [← hL s (by rw [e1]; simp), ← hL x (by rw [e1]; simp)]
        have hs := h s (by rw [e1]; simp)
        have hx := h x (by rw [e1]; simp)
        have e0 : append0V R (L s) (L x) = append0V R' (L s) (L x) := by
          cases e : L s with
          | ref p off len =>
            rw [e] at hs
            simp only [append0V]
            rw [getP_agree (R := R) (R' := R') (p := p) (hs _ (by simp [namesV, namesA, namesC]))]
          | _ => rfl
        rw [e0]
        congr 3
        unfold appendV
        rw [elsOf_congr hx]
        cases elsOf R' (L x) with
        | none => rfl
        | some q =>
          obtain ⟨sz, ys⟩ := q
          dsimp only
          split
          · rename_i n len e3
            rw [e3] at hs
            rw [srcK_congr hx, hs n (by simp [namesV, namesA, namesC])]
          · rw [srcK_congr hx]
          · rfl
      · rename_i x t e1 e2
        rw [hL x (by rw [e1]; simp)]
      · rename_i d s t u e1 e2
        rw [← hL d (by rw [e1]; simp), ← hL s (by rw [e1]; simp)]
        have hd := h d (by rw [e1]; simp)
        have hs := h s (by rw [e1]; simp)
        congr 1
        unfold copyV
        rw [elsOf_congr hs]
        cases elsOf R' (L s) with
        | none => rfl
        | some q =>
          obtain ⟨sz, ys⟩ := q
          dsimp only
          cases e : L d with
          | ref p off len =>
            rw [e] at hd
            dsimp only
            rw [getP_agree (R := R) (R' := R') (p := p) (hd _ (by simp [namesV, namesA, namesC])), hd p.1 (by simp [namesV, namesA, namesC])]
          | _ => rfl
      · rename_i x y e1
        rw [hL x (by rw [e1]; simp), hL y (by rw [e1]; simp)]
      · rename_i x y e1
        rw [hL x (by rw [e1]; simp), hL y (by rw [e1]; simp)]
      · rfl
    | value f => rfl
    | invoke r m => rfl
  | _ => rfl
theorem act2_congr {tab : Nat → TI} {L L' : Operand → V} {R R' : Rs} {o : Op} (hL : ∀ x, x ∈ o.operands.toList → L x = L' x) (h : ∀ x, x ∈ o.operands.toList → ∀ n, n ∈ namesV (L x) → R n = R' n) : act2 tab L R b o = act2 tab L' R' b o := by
  unfold act2
  split
  · rename_i t x lo hi mx
    have m1 : x ∈ (Op.slice t x (some lo) (some hi) (some mx)).operands.toList := by simp [Op.operands]
    rw [← hL x m1, ← hL lo (by simp [Op.operands]), ← hL hi (by simp [Op.operands]), ← hL mx (by simp [Op.operands])]
    have := h x m1
    congr 1
    unfold slice3V
    split
    · rename_i e _ _ _
      rw [e] at this
      rw [getP_agree (this _ (by simp [namesV, namesA, namesC]))]
    · rfl
  · rename_i t x lo hi
    have m1 : x ∈ (Op.slice t x (some lo) (some hi) none).operands.toList := by simp [Op.operands]
    rw [← hL x m1, ← hL lo (by simp [Op.operands]), ← hL hi (by simp [Op.operands])]
    have := h x m1
    congr 1
    unfold slicexV
    split
    · rename_i e _ _
      rw [e] at this
      rw [this _ (by simp [namesV, namesA, namesC])]
    · rfl
  · rename_i t u x
    have m1 : x ∈ (Op.convert t u x).operands.toList := by simp [Op.operands]
    rw [← hL x m1]
    have q2 := h x m1
    have he : elsOf R (L x) = elsOf R' (L x) := by
      unfold elsOf
      cases hx : L x <;> first | rfl | (rw [hx] at q2; dsimp only; rw [getP_agree (q2 _ (by simp [namesV, namesA, namesC]))])
    congr 1
    unfold bsV
    rw [← he]
  · rename_i bi args ts
    have ha : ∀ x, x ∈ args.toList → x ∈ (Op.call ⟨.builtin bi, args, ts⟩).operands.toList := fun x hx => by simp [Op.operands, Call.operands]; simpa using hx
    unfold call2V
    split
    · rename_i s x t u e1 e2
      have m1 := ha s (by rw [e1]; simp)
      have m2 := ha x (by rw [e1]; simp)
      rw [← hL s m1, ← hL x m2]
      have q1 := h s m1
      have q2 := h x m2
      have he : elsOf R (L x) = elsOf R' (L x) := by
        unfold elsOf
        cases hx : L x <;> first | rfl | (rw [hx] at q2; dsimp only; rw [getP_agree (q2 _ (by simp [namesV, namesA, namesC]))])
      congr 1
      unfold appinV
      rw [← he]
      cases elsOf R (L x) with
      | none => rfl
      | some q =>
        dsimp only
        split
        · rename_i e
          rw [e] at q1
          rw [q1 _ (by simp [namesV, namesA, namesC])]
        · rfl
    · rename_i x t e1 e2
      have m1 := ha x (by rw [e1]; simp)
      rw [← hL x m1]
      have q1 := h x m1
      congr 1
      unfold clearV
      split
      · rename_i e
        rw [e] at q1
        rw [q1 _ (by simp [namesV, namesA, namesC])]
      · rfl
    · rename_i d s t u e1 e2
      have m1 := ha d (by rw [e1]; simp)
      have m2 := ha s (by rw [e1]; simp)
      rw [← hL d m1, ← hL s m2]
      have q1 := h d m1
      have q2 := h s m2
      have he : elsOf R (L s) = elsOf R' (L s) := by
        unfold elsOf
        cases hx : L s <;> first | rfl | (rw [hx] at q2; dsimp only; rw [getP_agree (q2 _ (by simp [namesV, namesA, namesC]))])
      congr 1
      unfold copyGV
      rw [← he]
      cases elsOf R (L s) with
      | none => rfl
      | some q =>
        dsimp only
        split
        · rename_i e
          rw [e] at q1
          rw [q1 _ (by simp [namesV, namesA, namesC]), getP_agree (q1 _ (by simp [namesV, namesA, namesC]))]
        · rfl
    · rfl
  · rfl
end Go.Ev
namespace Go.Ev
open Go Go.RowKit

structure Env where
  P : Program
  tab : Nat → TI
  nt : Nat
  ok : TabOK P tab
  mo : P.follows .mixedOrders = true
  k0 : Nat := 0

/-- What is kept since the start: the names below k0 came from outside. -/
structure Kp (k0 : Nat) (C0 C : Cx) : Prop where
  fr : Fr C0 C
  ex : Ext C0 C
  lt : ∀ n, C0.A n → n < k0

theorem Kp.next {k0 : Nat} {C0 C C' : Cx} (h : Kp k0 C0 C) (e : Ext C C') (f : Fr C C') : Kp k0 C0 C' := ⟨h.fr.trans f, h.ex.trans e, h.lt⟩

variable {E : Env} {b : Nat}

def putF (T : Nat → V) (d : Option Nat) (v : V) : Nat → V :=
  match d with
  | some d => fun t => if d = t then v else T t
  | none => T

def notClo : V → Bool
  | .clo .. => false
  | _ => true

def calleeOf (L : Operand → V) (c : Call) : Option (FuncId × List V) :=
  match c.callee with
  | .value fo =>
    match L fo with
    | .val (.func (.func f) fi ca) => if fi.isEmpty = true ∧ ca.isEmpty = true then some (f, c.args.toList.map L) else none
    | .clo f cs => if cs.all notClo = true then some (f, c.args.toList.map L ++ cs) else none
    | _ => none
  | _ => none

/-- What looks at no root. -/
def pureOp : Op → Bool
  | .move _ | .assign _ | .nilCheck _ | .pick _ _ _ | .alloc _ | .box _ _ | .build _ _ | .fieldAddr _ _ _ | .field _ _ _ | .extract _ _ | .unOp _ _ _ | .makeSlice _ _ _ | .makeFunc _ _ _ => true
  | _ => false
def opNames (L : Operand → V) (o : Op) : List Nat := if pureOp o = true then [] else o.operands.toList.flatMap fun x => namesV (L x)

theorem act_pure {tab : Nat → TI} {L : Operand → V} {R R' : Rs} {b : Nat} {o : Op} (h : pureOp o = true) : act tab L R b o = act tab L R' b o := by
  cases o <;> first | rfl | simp [pureOp] at h

theorem act2_pure {tab : Nat → TI} {L : Operand → V} {R R' : Rs} {b : Nat} {o : Op} (h : pureOp o = true) : act2 tab L R b o = act2 tab L R' b o := by
  cases o <;> first | rfl | simp [pureOp] at h

def dstOf (ops : Array Oper) (j : Nat) : Option Nat := (ops[j]?).bind (·.dst)

/-- Is the operation wanted, and why. -/
def WantOK (nt : Nat) (ops : Array Oper) (o : Oper) (T : Nat → V) (yes : Bool) : Prop :=
  match o.guard with
  | none => yes = true
  | some (j, w) => ∃ d, dstOf ops j = some d ∧ d < nt ∧ ((∃ t, T d = .val (.bool t) ∧ yes = (t == w)) ∨ (T d = .val undef ∧ yes = false))

/-- What an operation gives: the value, the names that it looks at, the roots that it writes. -/
def Eff (E : Env) (ops : Array Oper) (bi : Nat) (o : Oper) (T : Nat → V) (R : Rs) (v : V) (nm : List Nat) (wr : List (Nat × Option Root)) : Prop :=
  (WantOK E.nt ops o T false ∧ v = .val undef ∧ nm = [] ∧ wr = []) ∨
  (WantOK E.nt ops o T true ∧ nm = opNames (lookO E.nt T) o.op ∧
    ((∃ out, ActS E.P E.tab (lookO E.nt T) R bi o out ∧ out.c ∧ v = out.v ∧ wr = out.wr) ∨
     ∃ c f xs ys gv rs, o.op = .call c ∧ calleeOf (lookO E.nt T) c = some (f, xs) ∧ FrzA R xs ys ∧ Good E.P f ys gv rs ∧ rs.length ≤ 8 ∧ v = shV bi gv ∧ wr = newsL bi rs)) ∨
  (WantOK E.nt ops o T true ∧ ∃ c f xs ys gv rs rs' ns zs, o.op = .call c ∧ calleeOf (lookO E.nt T) c = some (f, xs) ∧ nm = opNames (lookO E.nt T) o.op ++ (ns ++ zs) ∧ GoodR E.P f ys rs gv rs' ∧ ns.Nodup ∧ HandL R ns ns.length ns rs ∧ (∀ z, z ∈ zs → z ∉ ns) ∧ ArgR R ns zs xs ys ∧ rs'.length - rs.length ≤ 8 ∧ v = rnV (upN ns bi) gv ∧ wr = wrR ns zs bi rs')

theorem lookO_congr {nt : Nat} {T T' : Nat → V} {x : Operand} (h : ∀ t, x = .tmp t → T t = T' t) : lookO nt T x = lookO nt T' x := by
  cases x with
  | tmp t => simp only [lookO, h t rfl]
  | _ => rfl

theorem FrzC.congr {R R' : Rs} {x y : V} (h : FrzC R x y) (hn : ∀ n, n ∈ namesC x → R n = R' n) : FrzC R' x y := by
  cases h with
  | same h => exact .same h
  | any => exact .any
  | ref h hc hz => exact .ref (by rw [← getP_agree (hn _ (by simp [namesC]))]; exact h) hc hz

theorem FrzL.congr {R R' : Rs} {cs ds : List V} (h : FrzL R cs ds) (hn : ∀ c, c ∈ cs → ∀ n, n ∈ namesC c → R n = R' n) : FrzL R' cs ds := by
  induction h with
  | nil => exact .nil
  | cons h k ih => exact .cons (h.congr (hn _ (by simp))) (ih fun c hc => hn c (by simp [hc]))

theorem Frz.congr {R R' : Rs} {x y : V} (h : Frz R x y) (hn : ∀ n, n ∈ namesV x → R n = R' n) : Frz R' x y := by
  cases h with
  | cell h => exact .cell (h.congr (fun n h1 => hn n (by cases x <;> first | exact namesC_A h1 | (simp [namesC] at h1))))
  | agg h => exact .agg (h.congr fun c hc n h1 => hn n (List.mem_flatMap.2 ⟨c, hc, h1⟩))
  | clo h => exact .clo (h.congr fun c hc n h1 => hn n (List.mem_flatMap.2 ⟨c, hc, namesC_A h1⟩))

theorem FrzA.congr {R R' : Rs} {cs ds : List V} (h : FrzA R cs ds) (hn : ∀ c, c ∈ cs → ∀ n, n ∈ namesV c → R n = R' n) : FrzA R' cs ds := by
  induction h with
  | nil => exact .nil
  | cons h k ih => exact .cons (h.congr (hn _ (by simp))) (ih fun c hc => hn c (by simp [hc]))

theorem ArgR.congr {R R' : Rs} {ns zs : List Nat} {xs ys : List V} (h : ArgR R ns zs xs ys) (hn : ∀ c, c ∈ xs → ∀ n, n ∈ namesV c → R n = R' n) : ArgR R' ns zs xs ys := by
  induction h with
  | nil => exact .nil
  | ren h ok k ih => exact .ren h ok (ih fun c hc => hn c (by simp [hc]))
  | frz h k ih => exact .frz (h.congr fun n h1 => by rw [hn _ (by simp) n h1]) (ih fun c hc => hn c (by simp [hc]))

theorem callee_names {L : Operand → V} {c : Call} {f : FuncId} {xs : List V} (h : calleeOf L c = some (f, xs)) : ∀ x, x ∈ xs → (∀ n, n ∈ namesV x → n ∈ opNames L (.call c)) := by
  intro x hx n hn
  obtain ⟨callee, args, ts⟩ := c
  have inargs : x ∈ args.toList.map L → n ∈ opNames L (.call ⟨callee, args, ts⟩) := by
    intro hm
    obtain ⟨y, hy, rfl⟩ := List.mem_map.1 hm
    exact List.mem_flatMap.2 ⟨y, by simp only [Op.operands, Call.operands, Array.toList_append]; exact List.mem_append.2 (.inr hy), hn⟩
  cases callee with
  | value fo =>
    simp only [calleeOf] at h
    split at h
    · split at h
      · simp only [Option.some.injEq, Prod.mk.injEq] at h
        obtain ⟨rfl, rfl⟩ := h
        exact inargs hx
      · cases h
    · rename_i f' cs e
      split at h
      · rename_i hall
        simp only [Option.some.injEq, Prod.mk.injEq] at h
        obtain ⟨rfl, rfl⟩ := h
        rcases List.mem_append.1 hx with hx | hx
        · exact inargs hx
        · refine List.mem_flatMap.2 ⟨fo, by simp [Op.operands, Call.operands], ?_⟩
          rw [e]
          have := List.all_eq_true.1 hall x hx
          exact List.mem_flatMap.2 ⟨x, hx, by cases x <;> first | exact hn | (simp [notClo] at this)⟩
      · cases h
    · cases h
  | _ => simp [calleeOf] at h

/-- What an operation looks at stays: it gives the same. -/
theorem Eff.congr {ops : Array Oper} {bi : Nat} {o : Oper} {T T' : Nat → V} {R R' : Rs} {v : V} {nm : List Nat} {wr : List (Nat × Option Root)} (h : Eff E ops bi o T R v nm wr)
    (hT : ∀ t, t ∈ o.looksAt ops → T t = T' t) (hR : ∀ n, n ∈ nm → R n = R' n) : Eff E ops bi o T' R' v nm wr := by
  have hW : ∀ y, WantOK E.nt ops o T y → WantOK E.nt ops o T' y := by
    intro y hy
    unfold WantOK at hy ⊢
    cases hg : o.guard with
    | none => rw [hg] at hy; exact hy
    | some jw =>
      obtain ⟨j, w⟩ := jw
      rw [hg] at hy
      obtain ⟨d, h1, h2, h3⟩ := hy
      refine ⟨d, h1, h2, ?_⟩
      rw [← hT d ?_]
      · exact h3
      · unfold Oper.looksAt
        rw [hg]
        refine List.mem_append.2 (.inr ?_)
        show d ∈ ((ops[j]?).bind (·.dst)).toList
        have : (ops[j]?).bind (·.dst) = some d := h1
        rw [this]; simp
  have hL : ∀ x, x ∈ o.op.operands.toList → lookO E.nt T x = lookO E.nt T' x := by
    intro x hx
    refine lookO_congr fun t e => hT t ?_
    unfold Oper.looksAt
    exact List.mem_append.2 (.inl (List.mem_filterMap.2 ⟨x, hx, by rw [e]⟩))
  rcases h with ⟨h1, h2⟩ | ⟨h1, rfl, h2⟩ | ⟨h1, c, f, xs, ys, gv, rs, rs', ns, zs, k1, k2, rfl, k3, k4, k5, k6, k7, k8⟩
  · exact .inl ⟨hW _ h1, h2⟩
  rotate_left
  · have hop : ∀ c : Call, o.op = .call c → calleeOf (lookO E.nt T) c = calleeOf (lookO E.nt T') c := by
      intro c k1
      rw [k1] at hL
      obtain ⟨callee, args, ts⟩ := c
      cases callee with
      | value fo =>
        have e1 : lookO E.nt T fo = lookO E.nt T' fo := hL fo (by simp [Op.operands, Call.operands])
        have e2 : args.toList.map (lookO E.nt T) = args.toList.map (lookO E.nt T') := List.map_congr_left fun x hx => hL x (by simp [Op.operands, Call.operands]; exact .inr (by simpa using hx))
        simp only [calleeOf, ← e1, ← e2]
      | _ => rfl
    have hn : opNames (lookO E.nt T) o.op = opNames (lookO E.nt T') o.op := by
      unfold opNames
      split
      · rfl
      have : ∀ l : List Operand, (∀ x, x ∈ l → lookO E.nt T x = lookO E.nt T' x) → l.flatMap (fun x => namesV (lookO E.nt T x)) = l.flatMap fun x => namesV (lookO E.nt T' x) := by
        intro l hl
        induction l with
        | nil => rfl
        | cons x l ih => simp only [List.flatMap_cons, hl x (by simp), ih fun y hy => hl y (by simp [hy])]
      exact this _ hL
    refine .inr (.inr ⟨hW _ h1, c, f, xs, ys, gv, rs, rs', ns, zs, k1, (hop c k1).symm.trans k2, by rw [hn], k3, k4, handL_congr k5 fun n hn => hR n (by simp [hn]), k6, k7.congr fun x hx n hnn => hR n ?_, k8⟩)
    rw [k1]
    exact List.mem_append.2 (.inl (callee_names k2 x hx n hnn))
  · have hn : opNames (lookO E.nt T) o.op = opNames (lookO E.nt T') o.op := by
      unfold opNames
      split
      · rfl
      have : ∀ l : List Operand, (∀ x, x ∈ l → lookO E.nt T x = lookO E.nt T' x) → l.flatMap (fun x => namesV (lookO E.nt T x)) = l.flatMap fun x => namesV (lookO E.nt T' x) := by
        intro l hl
        induction l with
        | nil => rfl
        | cons x l ih => simp only [List.flatMap_cons, hl x (by simp), ih fun y hy => hl y (by simp [hy])]
      exact this _ hL
    have hA : ∀ b, act E.tab (lookO E.nt T) R b o.op = act E.tab (lookO E.nt T') R' b o.op := by
      intro b
      by_cases hp : pureOp o.op = true
      · rw [act_pure (R' := R') hp]
        exact act_congr hL fun _ _ _ _ => rfl
      · exact act_congr hL fun x hx n hnn => hR n (by unfold opNames; rw [if_neg hp]; exact List.mem_flatMap.2 ⟨x, hx, hnn⟩)
    have hA2 : ∀ b, act2 E.tab (lookO E.nt T) R b o.op = act2 E.tab (lookO E.nt T') R' b o.op := by
      intro b
      by_cases hp : pureOp o.op = true
      · rw [act2_pure (R' := R') hp]
        exact act2_congr hL fun _ _ _ _ => rfl
      · exact act2_congr hL fun x hx n hnn => hR n (by unfold opNames; rw [if_neg hp]; exact List.mem_flatMap.2 ⟨x, hx, hnn⟩)
    refine .inr (.inl ⟨hW _ h1, hn, ?_⟩)
    rcases h2 with ⟨out, k1, k2, k3, k4⟩ | ⟨c, f, xs, ys, gv, rs, k1, k2, k3, k4⟩
    · exact .inl ⟨out, k1.imp (fun k => by rw [← hA]; exact k) fun k => k.imp (fun k => by rw [← hA2]; exact k) fun k => k.imp (fun ⟨r, k, k'⟩ => ⟨r, pureV_congr hL k, k'⟩) fun k => actx_congr hL (fun x hx p off len e => by
        by_cases hp : pureOp o.op = true
        · cases k with
          | appf ho => rw [ho] at hp; simp [pureOp] at hp
          | arr ho => rw [ho] at hp; simp [pureOp] at hp
        · exact hR _ (by unfold opNames; rw [if_neg hp]; exact List.mem_flatMap.2 ⟨x, hx, by rw [e]; simp [namesV, namesA, namesC]⟩)) k, k2, k3, k4⟩
    · refine .inr ⟨c, f, xs, ys, gv, rs, k1, ?_, k3.congr ?_, k4⟩
      · rw [← k2]
        rw [k1] at hL
        obtain ⟨callee, args, ts⟩ := c
        cases callee with
        | value fo =>
          have e1 : lookO E.nt T fo = lookO E.nt T' fo := hL fo (by simp [Op.operands, Call.operands])
          have e2 : args.toList.map (lookO E.nt T) = args.toList.map (lookO E.nt T') := List.map_congr_left fun x hx => hL x (by simp [Op.operands, Call.operands]; exact .inr (by simpa using hx))
          simp only [calleeOf, ← e1, ← e2]
        | _ => rfl
      · intro x hx n hnn
        refine hR n ?_
        rw [k1]
        exact callee_names k2 x hx n hnn

def keysOf (wr : List (Nat × Option Root)) : List Nat := wr.map (·.1)

theorem applyF_other : ∀ (wr : List (Nat × Option Root)) (R : Rs) (n : Nat), n ∉ keysOf wr → applyF R wr n = R n
  | [], R, n, _ => rfl
  | (k, x) :: wr, R, n, h => by
    simp only [keysOf, List.map_cons, List.mem_cons, not_or] at h
    rw [applyF, applyF_other wr _ n h.2, if_neg h.1]

theorem applyF_in : ∀ (wr : List (Nat × Option Root)) (R R' : Rs) (n : Nat), n ∈ keysOf wr → applyF R wr n = applyF R' wr n
  | (k, x) :: wr, R, R', n, h => by
    simp only [applyF]
    by_cases hk : n ∈ keysOf wr
    · exact applyF_in wr _ _ n hk
    · rw [applyF_other wr _ n hk, applyF_other wr _ n hk]
      simp only [keysOf, List.map_cons, List.mem_cons] at h
      rcases h with h | h
      · rw [if_pos h, if_pos h]
      · exact absurd h hk

theorem applyF_comm {w1 w2 : List (Nat × Option Root)} (h : ∀ n, n ∈ keysOf w1 → n ∉ keysOf w2) (R : Rs) : applyF (applyF R w1) w2 = applyF (applyF R w2) w1 := by
  funext n
  by_cases h1 : n ∈ keysOf w1
  · rw [applyF_other w2 _ n (h n h1), applyF_in w1 R (applyF R w2) n h1]
  · rw [applyF_other w1 _ n h1]
    by_cases h2 : n ∈ keysOf w2
    · exact applyF_in w2 _ _ n h2
    · rw [applyF_other w2 _ n h2, applyF_other w2 _ n h2, applyF_other w1 _ n h1]

theorem putF_other {T : Nat → V} {d : Option Nat} {v : V} {t : Nat} (h : d ≠ some t) : putF T d v t = T t := by
  cases d with
  | none => rfl
  | some d => simp only [putF]; rw [if_neg (fun e => h (by rw [e]))]

theorem putF_comm {T : Nat → V} {d d' : Option Nat} {v v' : V} (h : ∀ k, d = some k → d' ≠ some k) : putF (putF T d v) d' v' = putF (putF T d' v') d v := by
  cases d with
  | none => rfl
  | some d =>
    cases d' with
    | none => rfl
    | some d' =>
      have := h d rfl
      funext t
      simp only [putF]
      by_cases h1 : d = t
      · subst h1
        rw [if_pos rfl, if_neg (fun e => this (by rw [e])), if_pos rfl]
      · rw [if_neg h1, if_neg h1]

/-- A step. -/
def StepR (E : Env) (ops : Array Oper) (base i : Nat) (lg : List Nat × List (Nat × Option Root)) (T : Nat → V) (R : Rs) (T1 : Nat → V) (R1 : Rs) : Prop :=
  ∃ o v, ops[i]? = some o ∧ Eff E ops (base + 8 * i) o T R v lg.1 lg.2 ∧ T1 = putF T o.dst v ∧ R1 = applyF R lg.2

/-- Two operations that may change places. -/
def Indep (ops : Array Oper) (lg : Nat → List Nat × List (Nat × Option Root)) (a i : Nat) : Prop :=
  (∀ oa oi, ops[a]? = some oa → ops[i]? = some oi → oa.apart ops oi = true) ∧ (∀ n, n ∈ (lg i).1 → n ∉ keysOf (lg a).2) ∧ (∀ n, n ∈ (lg a).1 → n ∉ keysOf (lg i).2) ∧ ∀ n, n ∈ keysOf (lg a).2 → n ∉ keysOf (lg i).2

theorem StepR.swap {ops : Array Oper} {base a i : Nat} {lg : Nat → List Nat × List (Nat × Option Root)} (hI : Indep ops lg a i) {T T1 T2 : Nat → V} {R R1 R2 : Rs}
    (h1 : StepR E ops base a (lg a) T R T1 R1) (h2 : StepR E ops base i (lg i) T1 R1 T2 R2) : ∃ T1' R1', StepR E ops base i (lg i) T R T1' R1' ∧ StepR E ops base a (lg a) T1' R1' T2 R2 := by
  obtain ⟨oa, va, ha, ea, rfl, rfl⟩ := h1
  obtain ⟨oi, vi, hi, ei, rfl, rfl⟩ := h2
  obtain ⟨i1, i2, i3, i4⟩ := hI
  obtain ⟨s1, s2, s3⟩ := Oper.apart_spec (i1 oa oi ha hi)
  refine ⟨_, _, ⟨oi, vi, hi, ei.congr (fun t ht => ?_) (fun n hn => ?_), rfl, rfl⟩, oa, va, ha, ea.congr (fun t ht => ?_) (fun n hn => ?_), ?_, ?_⟩
  · exact putF_other fun e => s1 t e ht
  · exact applyF_other _ _ _ (i2 n hn)
  · exact (putF_other fun e => s3 t e ht).symm
  · exact (applyF_other _ _ _ (i3 n hn)).symm
  · exact putF_comm s2
  · exact applyF_comm i4 R

/-- Operations one behind the other. -/
def Chain (E : Env) (ops : Array Oper) (base : Nat) (lg : Nat → List Nat × List (Nat × Option Root)) : List Nat → (Nat → V) → Rs → (Nat → V) → Rs → Prop
  | [], T, R, T', R' => T = T' ∧ R = R'
  | i :: l, T, R, T', R' => ∃ T1 R1, StepR E ops base i (lg i) T R T1 R1 ∧ Chain E ops base lg l T1 R1 T' R'

theorem Chain.first {ops : Array Oper} {base i : Nat} {lg : Nat → List Nat × List (Nat × Option Root)} : ∀ (l1 l2 : List Nat) {T T' : Nat → V} {R R' : Rs}, Chain E ops base lg (l1 ++ i :: l2) T R T' R' → (∀ a, a ∈ l1 → Indep ops lg a i) → Chain E ops base lg (i :: (l1 ++ l2)) T R T' R'
  | [], l2, T, T', R, R', h, _ => h
  | a :: l1, l2, T, T', R, R', h, hI => by
    obtain ⟨T1, R1, h1, h2⟩ := h
    obtain ⟨T2, R2, h3, h4⟩ := Chain.first l1 l2 h2 fun x hx => hI x (by simp [hx])
    obtain ⟨T1', R1', k1, k2⟩ := StepR.swap (hI a (by simp)) h1 h3
    exact ⟨T1', R1', k1, T2, R2, k2, h4⟩
end Go.Ev
namespace Go.Ev
open Go Go.RowKit
variable {E : Env} {C0 : Cx}

/-- The concrete state tells the abstract one. -/
def Inv (E : Env) (C0 : Cx) (base : Nat) (S : Nat → Prop) (T : Nat → V) (R : Rs) (a : Act) (w : World) : Prop :=
  ∃ C, C.w = w ∧ Sat C ∧ C.R = R ∧ (∀ t, t < E.nt → VR C (a.tmps.getD t undef) (T t)) ∧ a.tmps.size = E.nt ∧ a.defers = [] ∧ Kp E.k0 C0 C ∧ ∀ n, C.A n → n < base ∨ ∃ j, S j ∧ base + 8 * j ≤ n ∧ n < base + 8 * j + 8

theorem put_rep {C : Cx} {a : Act} {T : Nat → V} {nt : Nat} (h : ∀ t, t < nt → VR C (a.tmps.getD t undef) (T t)) (hs : a.tmps.size = nt) {d : Option Nat} {v' : Value} {v : V} (hv : VR C v' v) :
    (∀ t, t < nt → VR C ((a.put d v').tmps.getD t undef) (putF T d v t)) ∧ (a.put d v').tmps.size = nt ∧ (a.put d v').defers = a.defers := by
  cases d with
  | none => exact ⟨h, hs, rfl⟩
  | some d =>
    refine ⟨fun t ht => ?_, by simp [Act.put, hs], rfl⟩
    simp only [Act.put, putF]
    by_cases e : d = t
    · subst e
      rw [if_pos rfl]
      have : (a.tmps.setIfInBounds d v').getD d undef = v' := by
        rw [Array.getD_eq_getD_getElem?, Array.getElem?_setIfInBounds]
        rw [if_pos rfl, if_pos (by omega)]
        rfl
      rw [this]; exact hv
    · rw [if_neg e]
      have : (a.tmps.setIfInBounds d v').getD t undef = a.tmps.getD t undef := by
        rw [Array.getD_eq_getD_getElem?, Array.getElem?_setIfInBounds, if_neg e, ← Array.getD_eq_getD_getElem?]
      rw [this]; exact h t ht

theorem want_wanted {C : Cx} {a : Act} {T : Nat → V} {nt : Nat} (h : ∀ t, t < nt → VR C (a.tmps.getD t undef) (T t)) (hs : a.tmps.size = nt) {ops : Array Oper} {o : Oper} {y : Bool} (hw : WantOK nt ops o T y) : Region.wanted o (yielded ops a.tmps) = y := by
  unfold WantOK at hw
  unfold Region.wanted
  cases hg : o.guard with
  | none => rw [hg] at hw; exact hw.symm
  | some jw =>
    obtain ⟨j, w⟩ := jw
    rw [hg] at hw
    obtain ⟨d, h1, h2, h3⟩ := hw
    have h6 : (ops[j]?).bind (·.dst) = some d := h1
    have at_ : ∀ u, T d = .val u → a.tmps[d]? = some u := by
      intro u hu
      have h4 := (hu ▸ h d h2).val_inv
      rw [Array.getD_eq_getD_getElem?] at h4
      have hlt : d < a.tmps.size := by omega
      rw [Array.getElem?_eq_getElem hlt] at h4 ⊢
      exact congrArg some h4
    rcases h3 with ⟨t, h3, rfl⟩ | ⟨h3, rfl⟩
    · have : yielded ops a.tmps j = some t := by
        simp only [yielded, h6, Option.bind_some, at_ _ h3]
      dsimp only
      rw [this]
      cases t <;> cases w <;> rfl
    · have : yielded ops a.tmps j = none := by
        simp only [yielded, h6, Option.bind_some, at_ _ h3, undef]
      dsimp only
      rw [this]
      cases w <;> rfl

theorem eval_rep {C : Cx} {a : Act} {T : Nat → V} {nt : Nat} (h : ∀ t, t < nt → VR C (a.tmps.getD t undef) (T t)) (x : Operand) : VR C (a.eval x) (lookO nt T x) := by
  cases x with
  | tmp t =>
    simp only [lookO]
    split
    · rename_i ht; exact h t ht
    · exact .fro (.any _)
  | const v => exact .fro (.val v)
  | func f => exact .fro (.val _)
  | global g => exact .fro (.any _)

theorem run_call {C : Cx} {ρ : Operand → Value} {L : Operand → V} (hL : ∀ x, VR C (ρ x) (L x)) {P : Program} {o : Oper} {c : Call} (ho : o.op = .call c) {f : FuncId} {xs : List V} (hc : calleeOf L c = some (f, xs)) (hf : Callable P f) (w : World) :
    ∃ vals : Array Value, (execOp ρ o).run P w = .ok (.enter f vals) w ∧ vals.size = xs.length ∧ ∀ (i : Nat) v x, vals[i]? = some v → xs[i]? = some x → VR C v x := by
  obtain ⟨fn, h1, h2, h3⟩ := hf
  have hcall : ∀ vals : Array Value, (callFunc f vals).run P w = .ok (.enter f vals) w := by
    intro vals
    simp only [callFunc, Sem.run_bind, run_program, Result.andThen_ok, h1, h2, h3, Bool.false_eq_true, if_false, Sem.run_pure]
  have hargs : ∀ (args : Array Operand) (i : Nat) v x, (args.map ρ)[i]? = some v → (args.toList.map L)[i]? = some x → VR C v x := by
    intro args i v x hv hx
    rw [List.getElem?_map, Option.map_eq_some_iff] at hx
    obtain ⟨y, hy, rfl⟩ := hx
    have hy' : args[i]? = some y := by simpa using hy
    rw [Array.getElem?_map, hy'] at hv
    cases hv
    exact hL y
  obtain ⟨callee, args, ts⟩ := c
  cases callee with
  | value fo =>
    simp only [calleeOf] at hc
    have hfo := hL fo
    split at hc
    · rename_i f' fi ca e
      split at hc
      · rename_i hemp
        simp only [Option.some.injEq, Prod.mk.injEq] at hc
        obtain ⟨rfl, rfl⟩ := hc
        rw [e] at hfo
        have e2 := hfo.val_inv
        have e3 : fi = #[] := Array.isEmpty_iff.1 hemp.1
        have e4 : ca = #[] := Array.isEmpty_iff.1 hemp.2
        subst e3; subst e4
        refine ⟨args.map ρ, ?_, by simp, hargs args⟩
        simp [execOp, ho, resolve, e2, Deferred.ofValue, invoke, hcall]
      · cases hc
    · rename_i f' cs e
      split at hc
      · simp only [Option.some.injEq, Prod.mk.injEq] at hc
        obtain ⟨rfl, rfl⟩ := hc
        rw [e] at hfo
        obtain ⟨vs, e2, e3, e4⟩ := hfo.clo_inv
        refine ⟨args.map ρ ++ vs, ?_, by simp [e3], fun i v x hv hx => ?_⟩
        · simp [execOp, ho, resolve, e2, Deferred.ofValue, invoke, hcall]
        · by_cases hi : i < args.size
          · rw [Array.getElem?_append_left (by simpa using hi)] at hv
            rw [List.getElem?_append_left (by simpa using hi)] at hx
            exact hargs args i v x hv hx
          · rw [Array.getElem?_append_right (by simpa using hi)] at hv
            rw [List.getElem?_append_right (by simpa using hi)] at hx
            simp only [Array.size_map, List.length_map, Array.length_toList] at hv hx
            exact e4 _ v x hv hx
      · cases hc
    · cases hc
  | _ => simp [calleeOf] at hc

theorem step_exec {ops : Array Oper} {base i : Nat} {lg : List Nat × List (Nat × Option Root)} {S : Nat → Prop} {T T1 : Nat → V} {R R1 : Rs} {a : Act} {w : World} {Q : Exit → Act → World → Prop}
    (h : Inv E C0 base S T R a w) (hi : ¬ S i) (hs : StepR E ops base i lg T R T1 R1) : wpOp E.P ops Q i (fun a' w' => Inv E C0 base (fun j => S j ∨ j = i) T1 R1 a' w') a w := by
  obtain ⟨C, rfl, hC, rfl, hT, hsz, hd, hF, hA⟩ := h
  obtain ⟨o, v, ho, eff, rfl, rfl⟩ := hs
  have fresh : ∀ n, base + 8 * i ≤ n → n < base + 8 * i + 8 → ¬ C.A n := by
    intro n h1 h2 h3
    rcases hA n h3 with h4 | ⟨j, hj, h4, h5⟩
    · omega
    · have : j = i := by omega
      exact hi (this ▸ hj)
  have hA' : ∀ (C' : Cx), (∀ n, C'.A n → C.A n ∨ (base + 8 * i ≤ n ∧ n < base + 8 * i + 8)) → ∀ n, C'.A n → n < base ∨ ∃ j, (S j ∨ j = i) ∧ base + 8 * j ≤ n ∧ n < base + 8 * j + 8 := by
    intro C' h n hn
    rcases h n hn with h1 | h1
    · rcases hA n h1 with h2 | ⟨j, hj, h2⟩
      · exact .inl h2
      · exact .inr ⟨j, .inl hj, h2⟩
    · exact .inr ⟨i, .inr rfl, h1⟩
  unfold wpOp
  rw [ho]
  dsimp only
  rcases eff with ⟨hw, rfl, _, hwr⟩ | ⟨hw, _, hact⟩ | ⟨hw, c, f, xs, ys, gv, rs, rs', ns, zs, k1, k2, _, k3, k4, k5, k6, k7, k8, rfl, k9⟩
  · rw [want_wanted hT hsz hw]
    simp only [Bool.false_eq_true, if_false]
    obtain ⟨p1, p2, p3⟩ := put_rep (d := o.dst) (v' := undef) hT hsz (.fro (.val undef))
    exact ⟨C, rfl, hC, by rw [hwr]; rfl, p1, p2, p3.trans hd, hF, hA' C fun n hn => .inl hn⟩
  · rw [want_wanted hT hsz hw]
    simp only [if_true]
    left
    have hL := fun x => eval_rep hT x
    rcases hact with ⟨out, k1, k2, rfl, k4⟩ | ⟨c, f, xs, ys, gv, rs, k1, k2, k3, k4, k5, rfl, k7⟩
    · obtain ⟨nx, v', C', r1, r2, r3, r4, r5, r6, r7, r8⟩ := acts_sound (P := E.P) E.ok hC hL (fresh (base + 8 * i) (Nat.le_refl _) (by omega)) (o := o) k1 k2
      have hT' : ∀ t, t < E.nt → VR C' (a.tmps.getD t undef) (T t) := fun t ht => (hT t ht).ext r4
      obtain ⟨p1, p2, p3⟩ := put_rep (d := o.dst) hT' hsz r7
      have fin : Inv E C0 base (fun j => S j ∨ j = i) (putF T o.dst out.v) (applyF C.R lg.2) (a.put o.dst v') C'.w :=
        ⟨C', rfl, r3, by rw [r6, k4], p1, p2, p3.trans hd, hF.next r4 r5, hA' C' fun n hn => (r8 n hn).imp id fun e => ⟨by omega, by omega⟩⟩
      unfold Oper.wp
      rw [r1]
      rcases r2 with rfl | ⟨rfl, rfl⟩
      · exact fin
      · exact fin
    · obtain ⟨vals, r1, r2, r3⟩ := run_call (P := E.P) hL k1 k2 k4.1 C.w
      have hcall := call_val (b := base + 8 * i) k4 hC r2 r3 k3 (fun n h1 h2 => fresh n h1 (by omega))
      unfold Oper.wp
      rw [r1]
      refine hcall.mono ?_
      rintro e w' ⟨v', C', rfl, rfl, q1, q2, q3, q4, q5, q6⟩
      have hT' : ∀ t, t < E.nt → VR C' (a.tmps.getD t undef) (T t) := fun t ht => (hT t ht).ext q2
      obtain ⟨p1, p2, p3⟩ := put_rep (d := o.dst) hT' hsz q5
      exact ⟨C', rfl, q1, by rw [q4, k7], p1, p2, p3.trans hd, hF.next q2 q3, hA' C' fun n hn => (q6 n hn).imp id fun e => ⟨e.1, by omega⟩⟩
  · rw [want_wanted hT hsz hw]
    simp only [if_true]
    left
    have hL := fun x => eval_rep hT x
    obtain ⟨vals, r1, r2, r3⟩ := run_call (P := E.P) hL k1 k2 k3.1 C.w
    have hcall := call_ref (b := base + 8 * i) k3 hC r2 r3 k4 k5 k6 k7 (fun n h1 h2 => fresh n h1 (by omega))
    unfold Oper.wp
    rw [r1]
    refine hcall.mono ?_
    rintro e w' ⟨v', C', rfl, rfl, q1, q2, q3, q4, q5, q6⟩
    have hT' : ∀ t, t < E.nt → VR C' (a.tmps.getD t undef) (T t) := fun t ht => (hT t ht).ext q2
    obtain ⟨p1, p2, p3⟩ := put_rep (d := o.dst) hT' hsz q5
    exact ⟨C', rfl, q1, by rw [q4, k9], p1, p2, p3.trans hd, hF.next q2 q3, hA' C' fun n hn => (q6 n hn).imp id fun e => ⟨e.1, by omega⟩⟩

theorem wpOps_chain {ops : Array Oper} {base : Nat} {lg : Nat → List Nat × List (Nat × Option Root)} {Q : Exit → Act → World → Prop} : ∀ (l : List Nat) {S : Nat → Prop} {T T' : Nat → V} {R R' : Rs} {a : Act} {w : World}, l.Nodup → (∀ i, i ∈ l → ¬ S i) →
    Inv E C0 base S T R a w → Chain E ops base lg l T R T' R' → (∀ S' a' w', Inv E C0 base S' T' R' a' w' → (∀ j, S' j → S j ∨ j ∈ l) → Q .normal a' w') → wpOps E.P ops Q l a w
  | [], S, T, T', R, R', a, w, _, _, h, hc, hq => by
    obtain ⟨rfl, rfl⟩ := hc
    exact hq S a w h fun j hj => .inl hj
  | i :: l, S, T, T', R, R', a, w, hn, hS, h, hc, hq => by
    obtain ⟨T1, R1, h1, h2⟩ := hc
    rw [wpOps_cons]
    refine wpOp_mono (fun a' w' h' => ?_) (step_exec h (hS i (by simp)) h1)
    have hn' := List.nodup_cons.1 hn
    refine wpOps_chain l hn'.2 (fun j hj hSj => ?_) h' h2 (fun S' a2 w2 h3 h4 => hq S' a2 w2 h3 fun j hj => ?_)
    · rcases hSj with h5 | h5
      · exact hS j (by simp [hj]) h5
      · exact hn'.1 (h5 ▸ hj)
    · rcases h4 j hj with (h5 | h5) | h5
      · exact .inl h5
      · exact .inr (by simp [h5])
      · exact .inr (by simp [h5])
end Go.Ev
namespace Go.Ev
open Go Go.RowKit
variable {E : Env} {C0 : Cx}

def InvS (E : Env) (C0 : Cx) (σ : St) (a : Act) (w : World) : Prop := Inv E C0 σ.b (fun _ => False) (lookT σ.T) (lookR σ.R) a w

/-- From a state on, the code comes to an end that is told. -/
def Ev (E : Env) (C0 : Cx) (c : Code) (K : Exit → St → Prop) (σ : St) : Prop :=
  ∀ a w, InvS E C0 σ a w → c.wp E.P (fun e a' w' => ∃ σ', K e σ' ∧ InvS E C0 σ' a' w') a w

section rules
variable {K : Exit → St → Prop} {σ : St}

theorem ev_skip (h : K .normal σ) : Ev E C0 .skip K σ := fun a w hi => wp_skip ⟨σ, h, hi⟩
theorem ev_ret (h : K .ret σ) : Ev E C0 .ret K σ := fun a w hi => wp_ret ⟨σ, h, hi⟩
theorem ev_exit {id : Nat} (h : K (.exit id) σ) : Ev E C0 (.exit id) K σ := fun a w hi => wp_exit ⟨σ, h, hi⟩

def seqK (Kb : St → Prop) (K : Exit → St → Prop) (e : Exit) (σ : St) : Prop :=
  match e with
  | .normal => Kb σ
  | e => K e σ

theorem ev_seq {x y : Code} (h : ∀ Kb : St → Prop, (∀ σ, Ev E C0 y K σ → Kb σ) → Ev E C0 x (seqK Kb K) σ) : Ev E C0 (.seq x y) K σ := by
  intro a w hi
  refine wp_seq (wp_mono (h (Ev E C0 y K) (fun _ h => h) a w hi) ?_)
  rintro e a' w' ⟨σ', hk, hi'⟩
  cases e with
  | normal => exact hk a' w' hi'
  | _ => exact ⟨σ', hk, hi'⟩

theorem ev_cond {c : Operand} {x y : Code} (t : Bool) (hc : lookO E.nt (lookT σ.T) c = .val (.bool t)) (h1 : t = true → Ev E C0 x K σ) (h2 : t = false → Ev E C0 y K σ) : Ev E C0 (.cond c x y) K σ := by
  intro a w hi
  have hv : a.eval c = .bool t := by
    obtain ⟨C, _, _, _, hT, _⟩ := hi
    have := eval_rep hT c
    rw [hc] at this
    exact this.val_inv
  exact wp_cond_split hv (fun ht => h1 ht a w hi) (fun ht => h2 ht a w hi)

def blkK (id : Nat) (K : Exit → St → Prop) (e : Exit) (σ : St) : Prop :=
  match e with
  | .exit i => if i = id then K .normal σ else K (.exit i) σ
  | e => K e σ

theorem ev_block {id : Nat} {c : Code} (h : Ev E C0 c (blkK id K) σ) : Ev E C0 (.block id c) K σ := by
  intro a w hi
  refine wp_block (wp_mono (h a w hi) ?_)
  rintro e a' w' ⟨σ', hk, hi'⟩
  cases e with
  | exit i =>
    simp only [Exit.inBlock]
    simp only [blkK] at hk
    split
    · rename_i e; rw [if_pos e] at hk; exact ⟨σ', hk, hi'⟩
    · rename_i e; rw [if_neg e] at hk; exact ⟨σ', hk, hi'⟩
  | _ => exact ⟨σ', hk, hi'⟩

/-- The second state knows no more than the first. -/
def Weak (E : Env) (C0 : Cx) (σ σ' : St) : Prop := ∀ a w, InvS E C0 σ a w → InvS E C0 σ' a w

theorem ev_weak {c : Code} {σ' : St} (hw : Weak E C0 σ σ') (h : Ev E C0 c K σ') : Ev E C0 c K σ := fun a w hi => h a w (hw a w hi)

def loopK {α : Type} (st : α → St) (μ : α → Nat) (n : Nat) (E : Env) (C0 : Cx) (K : Exit → St → Prop) (e : Exit) (σ : St) : Prop :=
  match e with
  | .normal => ∃ x, μ x < n ∧ Weak E C0 σ (st x)
  | e => K e σ

theorem ev_loop {α : Type} (st : α → St) (μ : α → Nat) {c : Code} (x0 : α) (h0 : Weak E C0 σ (st x0)) (hr : ∀ x, Ev E C0 c (loopK st μ (μ x) E C0 K) (st x)) : Ev E C0 (.loop c) K σ := by
  intro a w hi b k cs
  have key : ∀ n x, μ x = n → ∀ a w, InvS E C0 (st x) a w →
      ∃ e a' w', (∃ σ', K e σ' ∧ InvS E C0 σ' a' w') ∧ Arrives E.P (lone (b.at a (.code c :: .inLoop c :: k)) cs w) b k cs e a' w' := by
    intro n
    induction n using Nat.strongRecOn with
    | _ n ih =>
      intro x hn a w hI
      obtain ⟨e, a₁, w₁, ⟨σ₁, hq, hi₁⟩, harr⟩ := hr x a w hI b (.inLoop c :: k) cs
      cases e with
      | normal =>
        obtain ⟨y, hlt, hyw⟩ := hq
        obtain ⟨e₂, a₂, w₂, hq₂, harr₂⟩ := ih (μ y) (hn ▸ hlt) y rfl a₁ w₁ (hyw a₁ w₁ hi₁)
        exact ⟨e₂, a₂, w₂, hq₂, .of_steps (Steps.trans harr (.one step_inLoop)) harr₂⟩
      | exit id => exact ⟨_, a₁, w₁, ⟨σ₁, hq, hi₁⟩, .pass (x := .inLoop c) rfl (fun _ _ => .inl (by simp)) harr⟩
      | goto l => exact ⟨_, a₁, w₁, ⟨σ₁, hq, hi₁⟩, .pass (x := .inLoop c) rfl (fun _ _ => .inl (by simp)) harr⟩
      | ret => exact ⟨_, a₁, w₁, ⟨σ₁, hq, hi₁⟩, .pass (x := .inLoop c) rfl (fun _ _ => .inl (by simp)) harr⟩
      | panic ch => exact ⟨_, a₁, w₁, ⟨σ₁, hq, hi₁⟩, .pass (x := .inLoop c) rfl (fun _ _ => .inl (by simp)) harr⟩
      | outgrown => exact ⟨_, a₁, w₁, ⟨σ₁, hq, hi₁⟩, .pass (x := .inLoop c) rfl (fun _ _ => .inl (by simp)) harr⟩
  obtain ⟨e, a', w', hq, harr⟩ := key _ x0 rfl a w (h0 a w hi)
  exact ⟨e, a', w', hq, .of_steps (.one step_loop) harr⟩
end rules
end Go.Ev
