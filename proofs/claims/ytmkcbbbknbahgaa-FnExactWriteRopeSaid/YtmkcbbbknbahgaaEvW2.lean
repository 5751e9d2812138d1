/- Part 2 of the proof: the evaluator and the contracts of functions. -/
import Derived.Below
import Derived.KernelRfl
import Derived.Laws.AppendOwn
import Derived.Laws.CopyRow
import Derived.Laws.Entries
import Derived.Laws.IdiomCopy
import Derived.Laws.MakeOwn
import Derived.Laws.OwnMore
import Derived.Orders
import Derived.Test.YtmkcbbbknbahgaaEvW1
set_option linter.unusedVariables false
set_option linter.unusedSimpArgs false
set_option linter.unusedSectionVars false
namespace Go.Ev
open Go Go.RowKit

def upInv (σ : Nat → Nat) (len n : Nat) : Option Nat := (List.range len).find? fun i => decide (σ i = n)

theorem upInv_some {σ : Nat → Nat} {len n i : Nat} (h : upInv σ len n = some i) : i < len ∧ σ i = n :=
  ⟨List.mem_range.1 (List.mem_of_find?_eq_some h), by simpa using List.find?_some h⟩

theorem upInv_none {σ : Nat → Nat} {len n : Nat} (h : upInv σ len n = none) : ∀ i, i < len → σ i ≠ n := by
  intro i hi e
  have := List.find?_eq_none.1 h i (List.mem_range.2 hi)
  simp [e] at this

/-- The callee's end, seen by the caller. -/
def upCx (C C' : Cx) (σ : Nat → Nat) (len : Nat) (R : Rs) : Cx where
  w := C'.w
  F := C'.F
  io := fun p => match upInv σ len p.1 with | some i => C'.io (i, p.2) | none => C.io p
  R := R
  A := fun n => C.A n ∨ ∃ i, i < len ∧ σ i = n

theorem rnC_simple {pu : Bool} {ρ : Nat → Nat} {c : V} (h : (match c with | .any => true | .val _ => true | .list .. => !pu | .ept .. => !pu | _ => false) = true) : rnC ρ c = c := by
  cases c <;> first | rfl | simp at h

structure Up (C C2 C' : Cx) (σ : Nat → Nat) (ns zs : List Nat) (len : Nat) (R : Rs) : Prop where
  hC : Sat C
  h2 : ∀ i q sz xs, getP C2.R (i, q) = some (sz, xs) → ∃ xs0, getP C.R (σ i, q) = some (sz, xs0) ∧ xs0.length = xs.length ∧ C2.io (i, q) = C.io (σ i, q)
  w : C2.w = C.w
  F1 : ∀ k, C.F k → C2.F k
  F2 : ∀ k, C2.F k → C.F k ∨ OwnD C zs k
  O2 : ∀ k, Owned C2 k → OwnD C ns k
  S' : Sat C'
  e : Ext C2 C'
  f : Fr C2 C'
  A2 : ∀ i, i < ns.length → C2.A i
  A' : ∀ n, C'.A n → n < len
  inj : ∀ i j, i < len → j < len → σ i = σ j → i = j
  img : ∀ n, n ∈ ns → ∃ i, i < len ∧ σ i = n
  new : ∀ i, ns.length ≤ i → i < len → ¬ C.A (σ i)
  r1 : ∀ i, i < len → R (σ i) = (C'.R i).map (rnR σ)
  r2 : ∀ n, (∀ i, i < len → σ i ≠ n) → R n = if n ∈ zs then none else C.R n
  zn : ∀ z, z ∈ zs → z ∉ ns
  ok : ∀ i r, C'.R i = some r → r.els.all (·.all (okC false len)) = true

namespace Up
variable {C C2 C' : Cx} {σ : Nat → Nat} {ns zs : List Nat} {len : Nat} {R : Rs} (u : Up C C2 C' σ ns zs len R)
include u

theorem inv {i : Nat} (h : i < len) : upInv σ len (σ i) = some i := by
  cases e : upInv σ len (σ i) with
  | none => exact absurd rfl (upInv_none e i h)
  | some j =>
    obtain ⟨h1, h2⟩ := upInv_some e
    rw [u.inj j i h1 h h2]

theorem back {i : Nat} {q : Option (Nat × Nat)} {sz : Nat} {xs : List (List V)} (hi : i < len) (h : getP R (σ i, q) = some (sz, xs)) :
    ∃ xs1, getP C'.R (i, q) = some (sz, xs1) ∧ xs = xs1.map (·.map (rnC σ)) ∧ xs1.all (·.all (okC false len)) = true := by
  obtain ⟨r, hr⟩ := getP_some h
  have hr' := hr
  simp only [u.r1 i hi, Option.map_eq_some_iff] at hr'
  obtain ⟨r1, e1, e2⟩ := hr'
  have hok := u.ok i r1 e1
  cases q with
  | none =>
    rw [act_of hr] at h
    simp only [Option.some.injEq, Prod.mk.injEq] at h
    obtain ⟨rfl, rfl⟩ := h
    subst e2
    exact ⟨r1.els, act_of e1, rfl, hok⟩
  | some ab =>
    obtain ⟨a, b⟩ := ab
    obtain ⟨x, k1, k2⟩ := getP_row hr h
    subst e2
    simp only [rnR, List.getElem?_map, Option.map_eq_some_iff] at k1
    obtain ⟨x1, k3, rfl⟩ := k1
    rw [List.getElem?_map, Option.map_eq_some_iff] at k2
    obtain ⟨c1, k4, k5⟩ := k2
    have := rnC_row k5
    subst this
    have hc := List.all_eq_true.1 (List.all_eq_true.1 hok x1 (List.mem_of_getElem? k3)) _ (List.mem_of_getElem? k4)
    simp only [okC] at hc
    refine ⟨xs, getP_cell e1 k3 k4, ?_, ?_⟩
    · have : xs.map (·.map (rnC σ)) = xs.map id := List.map_congr_left fun y hy => by
        have : y.map (rnC σ) = y.map id := List.map_congr_left fun c hcy => rnC_simple (pu := false) (List.all_eq_true.1 (List.all_eq_true.1 hc y hy) c hcy)
        rw [this]; simp
      rw [this]; simp
    · refine List.all_eq_true.2 fun y hy => List.all_eq_true.2 fun c hcy => ?_
      have := List.all_eq_true.1 (List.all_eq_true.1 hc y hy) c hcy
      cases c <;> first | rfl | simp at this

theorem old {p : Pl} {sz : Nat} {xs : List (List V)} (hp : ∀ i, i < len → σ i ≠ p.1) (h : getP R p = some (sz, xs)) : p.1 ∉ zs ∧ getP C.R p = some (sz, xs) ∧ R p.1 = C.R p.1 := by
  obtain ⟨r, hr⟩ := getP_some h
  have hr' := hr
  rw [u.r2 _ hp] at hr'
  by_cases hz : p.1 ∈ zs
  · rw [if_pos hz] at hr'; cases hr'
  · rw [if_neg hz] at hr'
    exact ⟨hz, by rw [← h]; exact getP_congr (hr'.trans hr.symm), hr.trans hr'.symm⟩

theorem keep {p : Pl} {g : Nat} (hp : ∀ i, i < len → σ i ≠ p.1) (ha : Act? C p) (hi : C.io p = some g) : ¬ Owned C2 g ∧ g < C.w.heap.size := by
  refine ⟨fun ho => ?_, u.hC.owned_lt ⟨p, ha, hi⟩⟩
  obtain ⟨q, h1, h2, h3⟩ := u.O2 g ho
  have := u.hC.inj p q g ha h1 hi h3
  subst this
  obtain ⟨i, h4, h5⟩ := u.img _ h2
  exact hp i h4 h5

theorem io1 {i : Nat} (hi : i < len) (q : Option (Nat × Nat)) : (upCx C C' σ len R).io (σ i, q) = C'.io (i, q) := by
  simp only [upCx, u.inv hi]
theorem io0 {p : Pl} (hp : ∀ i, i < len → σ i ≠ p.1) : (upCx C C' σ len R).io p = C.io p := by
  simp only [upCx]
  cases e : upInv σ len p.1 with
  | none => rfl
  | some i => exact absurd (upInv_some e).2 (hp i (upInv_some e).1)

theorem cases_ (n : Nat) : (∃ i, i < len ∧ σ i = n) ∨ ∀ i, i < len → σ i ≠ n := by
  cases e : upInv σ len n with
  | none => exact .inr (upInv_none e)
  | some i => exact .inl ⟨i, upInv_some e⟩

theorem ext : Ext C (upCx C C' σ len R) := by
  refine ⟨fun k hk => by have := u.e.fr k (u.F1 k hk); rw [u.w] at this; exact this, fun k hk => u.e.F k (u.F1 k hk), fun n hn => .inl hn, fun p hA sz xs hx => ?_⟩
  obtain ⟨n, q⟩ := p
  rcases u.cases_ n with ⟨i, hi, rfl⟩ | hp
  · have hk : i < ns.length := by
      by_cases h : i < ns.length
      · exact h
      · exact absurd hA (u.new i (by omega) hi)
    obtain ⟨xs1, h1, h2, _⟩ := u.back hi hx
    obtain ⟨xs2, k1, k2, k3, k4⟩ := u.e.pl (i, q) (u.A2 i hk) sz xs1 h1
    obtain ⟨xs0, m1, m2, m3⟩ := u.h2 i q sz xs2 k1
    refine ⟨xs0, m1, by rw [h2, List.length_map]; omega, by rw [u.io1 hi, k3, m3], fun g hg cs ty hh => ?_⟩
    exact k4 g (m3.trans hg) cs ty (by rw [u.w]; exact hh)
  · obtain ⟨hz, h1, _⟩ := u.old hp hx
    refine ⟨xs, h1, Nat.le_refl _, u.io0 hp, fun g hg cs ty hh => ⟨cs, ?_, rfl⟩⟩
    obtain ⟨k1, k2⟩ := u.keep hp (by unfold Act?; rw [h1]; rfl) hg
    have := u.f.block g (by rw [u.w]; exact k2) k1
    rw [u.w] at this
    exact this.trans hh

theorem vrC {v : Value} {c : V} (hv : VR C' v c) (hc : okC false len c = true) : VR (upCx C C' σ len R) v (rnC σ c) := by
  cases c with
  | any => exact .fro (.any v)
  | val x => rw [hv.val_inv]; exact .fro (.val x)
  | list sz xs => exact .fro hv.list_inv
  | ept x j => exact .fro hv.ept_inv
  | ref p off ln =>
    obtain ⟨a, cap, rfl, hA, hs⟩ := hv.ref_inv
    have hl := u.A' _ hA
    refine .ref (.inr ⟨_, hl, rfl⟩) (fun sz xs hp => ?_)
    obtain ⟨xs1, h1, h2, _⟩ := u.back hl hp
    obtain ⟨o1, o2, o3, o4, o5⟩ := hs _ _ h1
    refine ⟨by rw [h2, List.length_map]; exact o1, o2, o3, fun h => o4 (by rw [← u.io1 hl]; exact h), fun g hg => o5 g (by rw [← u.io1 hl]; exact hg)⟩
  | ptr p i j =>
    obtain ⟨ad, rfl, hA, hs⟩ := hv.ptr_inv
    have hl := u.A' _ hA
    refine .ptr (.inr ⟨_, hl, rfl⟩) (fun sz xs hp => ?_)
    obtain ⟨xs1, h1, h2, _⟩ := u.back hl hp
    obtain ⟨g, k1, k2⟩ := hs _ _ h1
    exact ⟨g, by rw [u.io1 hl]; exact k1, k2⟩
  | row s zs => exact hv.not_row.elim
  | agg cs => simp [okC] at hc
  | tup cs => simp [okC] at hc
  | clo f cs => simp [okC] at hc

theorem vrA {v : Value} {c : V} (hv : VR C' v c) (hc : okA false len c = true) : VR (upCx C C' σ len R) v (rnA σ c) := by
  cases c with
  | agg cs =>
    obtain ⟨vs, rfl, h1, h2⟩ := hv.agg_inv
    refine .agg (by simpa using h1) (fun i x c h3 h4 => ?_)
    rw [List.getElem?_map, Option.map_eq_some_iff] at h4
    obtain ⟨d, hd, rfl⟩ := h4
    exact u.vrC (h2 i x d h3 hd) (List.all_eq_true.1 hc d (List.mem_of_getElem? hd))
  | clo f cs =>
    obtain ⟨vs, rfl, h1, h2⟩ := hv.clo_inv
    refine .clo (by simpa using h1) (fun i x c h3 h4 => ?_)
    rw [List.getElem?_map, Option.map_eq_some_iff] at h4
    obtain ⟨d, hd, rfl⟩ := h4
    exact u.vrC (h2 i x d h3 hd) (List.all_eq_true.1 hc d (List.mem_of_getElem? hd))
  | _ => exact u.vrC hv hc

theorem vrV {v : Value} {c : V} (hv : VR C' v c) (hc : okV false len c = true) : VR (upCx C C' σ len R) v (rnV σ c) := by
  cases c with
  | tup cs =>
    obtain ⟨vs, rfl, h1, h2⟩ := hv.tup_inv
    refine .tup (by simpa using h1) (fun i x c h3 h4 => ?_)
    rw [List.getElem?_map, Option.map_eq_some_iff] at h4
    obtain ⟨d, hd, rfl⟩ := h4
    exact u.vrA (h2 i x d h3 hd) (List.all_eq_true.1 hc d (List.mem_of_getElem? hd))
  | _ => exact u.vrA hv hc

theorem actb {i : Nat} {q : Option (Nat × Nat)} (hi : i < len) (h : Act? (upCx C C' σ len R) (σ i, q)) : Act? C' (i, q) := by
  obtain ⟨⟨sz, xs⟩, e⟩ := Option.isSome_iff_exists.1 h
  obtain ⟨xs1, k, _⟩ := u.back hi e
  unfold Act?; rw [k]; rfl

theorem acto {p : Pl} (hp : ∀ i, i < len → σ i ≠ p.1) (h : Act? (upCx C C' σ len R) p) : p.1 ∉ zs ∧ Act? C p := by
  obtain ⟨⟨sz, xs⟩, e⟩ := Option.isSome_iff_exists.1 h
  obtain ⟨k1, k2, _⟩ := u.old hp e
  exact ⟨k1, by unfold Act?; rw [k2]; rfl⟩

theorem apart {i : Nat} {p : Pl} {q : Option (Nat × Nat)} {g : Nat} (hp : ∀ i, i < len → σ i ≠ p.1) (ha : Act? C p) (hg : C.io p = some g) (hb : Act? C' (i, q)) (hi : C'.io (i, q) = some g) : False := by
  obtain ⟨k1, k2⟩ := u.keep hp ha hg
  rcases u.f.own g ⟨_, hb, hi⟩ with h | h
  · exact k1 h
  · rw [u.w] at h; omega

theorem sat : Sat (upCx C C' σ len R) := by
  have hx := u.ext
  refine ⟨fun p sz xs hp => ?_, fun p q g hp hq h1 h2 => ?_, fun p g hp h1 hF => ?_, u.S'.lt, fun n r hr => ?_⟩
  · obtain ⟨n, q⟩ := p
    rcases u.cases_ n with ⟨i, hi, rfl⟩ | hn
    · obtain ⟨xs1, h1, rfl, h3⟩ := u.back hi hp
      obtain ⟨k1, k2, k3⟩ := u.S'.pl _ _ _ h1
      refine ⟨fun x hx => ?_, fun h => ?_, fun g hg => ?_⟩
      · obtain ⟨y, hy, rfl⟩ := List.mem_map.1 hx
        rw [List.length_map]; exact k1 y hy
      · rw [k2 (by rw [← u.io1 hi]; exact h)]; rfl
      · obtain ⟨cs, ty, m1, m2, m3, m4⟩ := k3 g (by rw [← u.io1 hi]; exact hg)
        refine ⟨cs, ty, m1, fun hq r hr => ?_, by rw [List.length_map]; exact m3, fun a x j c e1 e2 => ?_⟩
        · have hr' : R (σ i) = some r := hr
          rw [u.r1 i hi, Option.map_eq_some_iff] at hr'
          obtain ⟨r1, q1, q2⟩ := hr'
          rw [← q2]
          exact m2 hq r1 q1
        · rw [List.getElem?_map, Option.map_eq_some_iff] at e1
          obtain ⟨x1, e3, rfl⟩ := e1
          rw [List.getElem?_map, Option.map_eq_some_iff] at e2
          obtain ⟨c1, e4, rfl⟩ := e2
          have hc := List.all_eq_true.1 (List.all_eq_true.1 h3 x1 (List.mem_of_getElem? e3)) c1 (List.mem_of_getElem? e4)
          obtain ⟨v, n1, n2, n3⟩ := m4 a x1 j c1 e3 e4
          refine ⟨v, n1, n2, ?_⟩
          cases c1 with
          | row s zs' =>
            obtain ⟨n4, n5⟩ := n3
            exact ⟨n4, u.vrC (c := .ref (i, some (a, j)) 0 zs'.length) n5 (by simp only [okC, decide_eq_true_eq]; exact hi)⟩
          | ref p' off ln => exact u.vrC (c := .ref p' off ln) n3 hc
          | ptr p' i' j' => exact u.vrC (c := .ptr p' i' j') n3 hc
          | any => exact u.vrC (c := .any) n3 hc
          | val x => exact u.vrC (c := .val x) n3 hc
          | list a' b' => exact u.vrC (c := .list a' b') n3 hc
          | ept a' b' => exact u.vrC (c := .ept a' b') n3 hc
          | agg _ => simp [okC] at hc
          | tup _ => simp [okC] at hc
          | clo _ _ => simp [okC] at hc
    · obtain ⟨hz, hg, hR⟩ := u.old hn hp
      obtain ⟨k1, k2, k3⟩ := u.hC.pl _ _ _ hg
      refine ⟨k1, fun h => k2 (by rw [← u.io0 (p := (n, q)) hn]; exact h), fun g hgi => ?_⟩
      rw [u.io0 hn] at hgi
      obtain ⟨cs, ty, m1, m2, m3, m4⟩ := k3 g hgi
      obtain ⟨j1, j2⟩ := u.keep hn (by unfold Act?; rw [hg]; rfl) hgi
      refine ⟨cs, ty, ?_, fun hq r hr => m2 hq r (by rw [← hR]; exact hr), m3, fun i x j c e1 e2 => ?_⟩
      · have := u.f.block g (by rw [u.w]; exact j2) j1
        rw [u.w] at this
        exact this.trans m1
      · obtain ⟨v, n1, n2, n3⟩ := m4 i x j c e1 e2
        exact ⟨v, n1, n2, n3.ext hx⟩
  · obtain ⟨n, s⟩ := p
    obtain ⟨m, t⟩ := q
    rcases u.cases_ n with ⟨i, hi, rfl⟩ | hn
    · rw [u.io1 hi] at h1
      have a1 := u.actb hi hp
      rcases u.cases_ m with ⟨j, hj, rfl⟩ | hm
      · rw [u.io1 hj] at h2
        have := u.S'.inj _ _ g a1 (u.actb hj hq) h1 h2
        simp only [Prod.mk.injEq] at this
        rw [this.1, this.2]
      · rw [u.io0 hm] at h2
        exact (u.apart hm (u.acto hm hq).2 h2 a1 h1).elim
    · rw [u.io0 hn] at h1
      rcases u.cases_ m with ⟨j, hj, rfl⟩ | hm
      · rw [u.io1 hj] at h2
        exact (u.apart hn (u.acto hn hp).2 h1 (u.actb hj hq) h2).elim
      · rw [u.io0 hm] at h2
        exact u.hC.inj _ _ g (u.acto hn hp).2 (u.acto hm hq).2 h1 h2
  · obtain ⟨n, s⟩ := p
    rcases u.cases_ n with ⟨i, hi, rfl⟩ | hn
    · rw [u.io1 hi] at h1
      exact u.S'.own _ g (u.actb hi hp) h1 hF
    · rw [u.io0 hn] at h1
      obtain ⟨hz, ha⟩ := u.acto hn hp
      obtain ⟨k1, k2⟩ := u.keep hn ha h1
      rcases u.f.F g hF with h | h | h
      · rcases u.F2 g h with h | ⟨q, q1, q2, q3⟩
        · exact u.hC.own _ g ha h1 h
        · exact hz ((u.hC.inj _ q g ha q1 h1 q3) ▸ q2)
      · exact k1 h
      · rw [u.w] at h; omega
  · rcases u.cases_ n with ⟨i, hi, e⟩ | hn
    · exact .inr ⟨i, hi, e⟩
    · have hr' : R n = some r := hr
      rw [u.r2 n hn] at hr'
      split at hr'
      · cases hr'
      · exact .inl (u.hC.nm n r hr')

theorem fr : Fr C (upCx C C' σ len R) := by
  have w := u.w
  refine ⟨by have := u.f.os; rw [w] at this; exact this, by have := u.f.tape; rw [w] at this; exact this, by have := u.f.output; rw [w] at this; exact this, by have := u.f.size; rw [w] at this; exact this, fun k hk ho => ?_, ?_, fun k hk => ?_⟩
  · have := u.f.block k (by rw [w]; exact hk) fun h => by
      obtain ⟨q, q1, _, q3⟩ := u.O2 k h
      exact ho ⟨q, q1, q3⟩
    rw [w] at this
    exact this
  · rintro k ⟨p, hp, hi⟩
    obtain ⟨n, s⟩ := p
    rcases u.cases_ n with ⟨i, h, rfl⟩ | hn
    · rw [u.io1 h] at hi
      rcases u.f.own k ⟨_, u.actb h hp, hi⟩ with h1 | h1
      · obtain ⟨q, q1, _, q3⟩ := u.O2 k h1
        exact .inl ⟨q, q1, q3⟩
      · rw [w] at h1; exact .inr h1
    · rw [u.io0 hn] at hi
      exact .inl ⟨_, (u.acto hn hp).2, hi⟩
  · rcases u.f.F k hk with h | h | h
    · rcases u.F2 k h with h1 | ⟨q, q1, _, q3⟩
      · exact .inl h1
      · exact .inr (.inl ⟨q, q1, q3⟩)
    · obtain ⟨q, q1, _, q3⟩ := u.O2 k h
      exact .inr (.inl ⟨q, q1, q3⟩)
    · rw [w] at h; exact .inr (.inr h)
end Up
end Go.Ev
namespace Go.Ev
open Go Go.RowKit
variable {P : Program} {C : Cx} {b : Nat}

/-- The roots that are handed in, as the callee names them. -/
def HandL (R : Rs) (ns : List Nat) (bd : Nat) : List Nat → List Root → Prop
  | [], [] => True
  | n :: l, r :: rs => (∃ r0, R n = some r0 ∧ r0.ty = r.ty ∧ r0.sz = r.sz ∧ r0.els = r.els.map (·.map (rnC fun k => ns.getD k 0)) ∧ r.els.all (·.all (okC false bd)) = true) ∧ HandL R ns bd l rs
  | _, _ => False

theorem handL_spec {R : Rs} {ns : List Nat} {bd : Nat} : ∀ {l : List Nat} {rs : List Root}, HandL R ns bd l rs → l.length = rs.length ∧ ∀ (k : Nat) r, rs[k]? = some r → ∃ n r0, l[k]? = some n ∧ R n = some r0 ∧ r0.ty = r.ty ∧ r0.sz = r.sz ∧ r0.els = r.els.map (·.map (rnC fun k => ns.getD k 0)) ∧ r.els.all (·.all (okC false bd)) = true
  | [], [], _ => ⟨rfl, fun k r h => by simp at h⟩
  | n :: l, r :: rs, h => by
    obtain ⟨k1, k2⟩ := handL_spec h.2
    refine ⟨by simp [k1], fun k q hq => ?_⟩
    cases k with
    | zero => simp only [List.getElem?_cons_zero, Option.some.injEq] at hq; subst hq; obtain ⟨r0, h1⟩ := h.1; exact ⟨n, r0, rfl, h1⟩
    | succ k => exact k2 k q (by simpa using hq)
  | [], _ :: _, h => h.elim
  | _ :: _, [], h => h.elim

theorem handL_congr {R R' : Rs} {ns : List Nat} {bd : Nat} : ∀ {l : List Nat} {rs : List Root}, HandL R ns bd l rs → (∀ n, n ∈ l → R n = R' n) → HandL R' ns bd l rs
  | [], [], _, _ => trivial
  | n :: l, r :: rs, h, hn => ⟨by rw [← hn n (by simp)]; exact h.1, handL_congr h.2 fun m hm => hn m (by simp [hm])⟩
  | [], _ :: _, h, _ => h.elim
  | _ :: _, [], h, _ => h.elim

theorem call_ref {f : FuncId} {ys : List V} {v : V} {rs : List Root} {rs' : List (Option Root)} (hG : GoodR P f ys rs v rs') (hC : Sat C) {xs : List V} {ns zs : List Nat} {vals : Array Value} (hl : vals.size = xs.length)
    (hv : ∀ (i : Nat) v x, vals[i]? = some v → xs[i]? = some x → VR C v x) (hnd : ns.Nodup) (hH : HandL C.R ns ns.length ns rs) (hz : ∀ z, z ∈ zs → z ∉ ns) (ha : ArgR C.R ns zs xs ys) (hb : ∀ n, b ≤ n → n < b + (rs'.length - rs.length) → ¬ C.A n) :
    Calls P f vals C.w fun e w' => ∃ v' C'', e = .returned v' ∧ C''.w = w' ∧ Sat C'' ∧ Ext C C'' ∧ Fr C C'' ∧ C''.R = applyF C.R (wrR ns zs b rs') ∧ VR C'' v' (rnV (upN ns b) v) ∧ ∀ n, C''.A n → C.A n ∨ (b ≤ n ∧ n < b + (rs'.length - rs.length)) := by
  obtain ⟨_, hlen, hokv, hokr, hG⟩ := hG
  obtain ⟨l1, l2⟩ := handL_spec hH
  have hnsR : ∀ n, n ∈ ns → ∃ r, C.R n = some r := by
    intro n hn
    obtain ⟨k, hk⟩ := List.getElem?_of_mem hn
    have hk' := (List.getElem?_eq_some_iff.1 hk).1
    obtain ⟨n', r0, q1, q2, _⟩ := l2 k _ (List.getElem?_eq_getElem (by omega))
    rw [hk] at q1; cases q1
    exact ⟨r0, q2⟩
  have getns : ∀ k, k < ns.length → ns.getD k 0 ∈ ns := fun k hk => by
    rw [List.getD_eq_getElem?_getD, List.getElem?_eq_getElem hk]; exact List.getElem_mem hk
  -- the handed-in roots alone; the ended ones frozen
  obtain ⟨s1, e1, o1⟩ := pr_ok hC (fun n => n ∈ ns) (fun k => C.F k ∨ OwnD C zs k) (fun _ h => .inl h) (fun k hk => hk.elim (hC.lt k) fun ⟨p, p1, _, p3⟩ => hC.owned_lt ⟨p, p1, p3⟩)
    (fun p g hp hact hi hF => hF.elim (hC.own p g hact hi) fun ⟨q, q1, q2, q3⟩ => hz p.1 ((hC.inj p q g hact q1 hi q3) ▸ q2) hp)
  obtain ⟨s3, e3, o3⟩ := pr_ok hC (fun n => n ∈ zs) C.F (fun _ h => h) hC.lt (fun p g _ hact hi => hC.own p g hact hi)
  generalize hC1 : prCx C (fun n => n ∈ ns) (fun k => C.F k ∨ OwnD C zs k) = C1 at *
  have hren : RenR C1 (fun k => ns.getD k 0) (fun n => rs[n]?) rs.length false := by
    intro n r hr
    obtain ⟨m, r0, q1, q2, q3, q4, q5, q6⟩ := l2 n r hr
    have hn := (List.getElem?_eq_some_iff.1 hr).1
    have hm : ns.getD n 0 = m := by rw [List.getD_eq_getElem?_getD, q1]; rfl
    refine ⟨hn, r0, ?_, q3, q4, q5, by rw [← l1]; exact q6⟩
    subst hC1
    simp only [prCx]
    rw [hm, if_pos (List.mem_of_getElem? q1)]
    exact q2
  have hinj : ∀ n m, n < ns.length → m < ns.length → ns.getD n 0 = ns.getD m 0 → n = m := by
    intro n m h1 h2 h
    rw [List.getD_eq_getElem?_getD, List.getD_eq_getElem?_getD, List.getElem?_eq_getElem h1, List.getElem?_eq_getElem h2] at h
    exact (List.getElem_inj hnd).1 h
  have hlt : ∀ n r, rs[n]? = some r → n < ns.length := fun n r h => by have := (List.getElem?_eq_some_iff.1 h).1; omega
  have hF : (∀ b, C1.F b → C1.F b) ∧ (false = false → C1.F = C1.F) := ⟨fun _ h => h, fun _ => rfl⟩
  obtain ⟨s2, o2⟩ := ren_sat (F' := C1.F) s1 hren (fun n m r r' h1 h2 e => hinj n m (hlt n r h1) (hlt m r' h2) e) hF
  obtain ⟨z1, z2⟩ := ha.spec
  have hw1 : C1.w = C.w := by subst hC1; rfl
  rw [← hw1]
  refine (hG (renCx C1 (fun k => ns.getD k 0) (fun n => rs[n]?) rs.length C1.F) vals s2 rfl (fun n h => h) (hl.trans z1) (fun i u y hu hy => ?_)).mono ?_
  · obtain ⟨x, hx, h⟩ := z2 i y hy
    have hvx := hv i u x hu hx
    rcases h with ⟨rfl, ok⟩ | h
    · exact ren_V hren hF (hvx.ext e1) (by rw [← l1]; exact ok)
    · have h3 := Frz.sound s3 (x := x) (y := y) h (hvx.ext e3)
      refine .fro ?_
      subst hC1
      refine Rd.mono (fun _ _ => rfl) (fun k hk => ?_) h3
      rcases hk with hk | hk
      · exact .inl hk
      · obtain ⟨p, p1, p2, p3⟩ := o3 k hk
        exact .inr ⟨p, p2, p1, p3⟩
  rintro e w' ⟨v', C', rfl, rfl, S', E', Fr', hR', hV, hA'⟩
  have newA : ∀ i, ns.length ≤ i → i < rs'.length → b ≤ upN ns b i ∧ upN ns b i < b + (rs'.length - rs.length) ∧ ¬ C.A (upN ns b i) := by
    intro i h1 h2
    have e : upN ns b i = b + (i - ns.length) := by simp only [upN]; rw [if_neg (by omega)]
    rw [e]
    exact ⟨by omega, by omega, hb _ (by omega) (by omega)⟩
  have oldA : ∀ i, i < ns.length → upN ns b i = ns.getD i 0 := fun i h => by simp only [upN]; rw [if_pos h]
  have inA : ∀ n, n ∈ ns → C.A n := fun n hn => by obtain ⟨r, hr⟩ := hnsR n hn; exact hC.nm n r hr
  have hinj' : ∀ i j, i < rs'.length → j < rs'.length → upN ns b i = upN ns b j → i = j := by
    intro i j hi hj h
    by_cases h1 : i < ns.length
    · by_cases h2 : j < ns.length
      · rw [oldA i h1, oldA j h2] at h; exact hinj i j h1 h2 h
      · rw [oldA i h1] at h
        exact absurd (inA _ (getns i h1)) (h ▸ (newA j (by omega) hj).2.2)
    · by_cases h2 : j < ns.length
      · rw [oldA j h2] at h
        exact absurd (inA _ (getns j h2)) (h ▸ (newA i (by omega) hi).2.2)
      · simp only [upN] at h
        rw [if_neg h1, if_neg h2] at h
        omega
  have hap := applyF_newR (ρ := upN ns b) rs' 0 (applyF C.R (zs.map fun z => (z, none))) (fun j k _ _ h3 h4 e => hinj' j k (by omega) (by omega) e)
  have u : Up C (renCx C1 (fun k => ns.getD k 0) (fun n => rs[n]?) rs.length C1.F) C' (upN ns b) ns zs rs'.length (applyF C.R (wrR ns zs b rs')) := by
    refine ⟨hC, fun i q sz xs h => ?_, hw1, fun k hk => by subst hC1; exact .inl hk, fun k hk => by subst hC1; exact hk, fun k hk => ?_, S', E', Fr', fun i hi => by show i < rs.length; omega, hA', hinj', fun n hn => ?_, fun i h1 h2 => (newA i h1 h2).2.2, fun i hi => ?_, fun n hn => ?_, hz, fun i r hr => hokr i r (by rw [hR'] at hr; exact hr)⟩
    · obtain ⟨xs0, k1, k2, _⟩ := ren_getP hren h
      obtain ⟨r, hr⟩ := getP_some h
      have hi := hlt i r hr
      rw [oldA i hi]
      subst hC1
      exact ⟨xs0, (pr_getP k1).2, k2, rfl⟩
    · obtain ⟨p, p1, p2, p3⟩ := o1 k (o2 k hk)
      exact ⟨p, p2, p1, p3⟩
    · obtain ⟨i, hi⟩ := List.getElem?_of_mem hn
      have hi' := (List.getElem?_eq_some_iff.1 hi).1
      refine ⟨i, by omega, ?_⟩
      rw [oldA i hi', List.getD_eq_getElem?_getD, hi]; rfl
    · rw [wrR, applyF_append]
      have := hap.1 i hi
      rw [Nat.zero_add] at this
      rw [this, hR']
    · rw [wrR, applyF_append, hap.2 n (fun k hk => by rw [Nat.zero_add]; exact hn k hk), applyF_none]
  refine ⟨v', upCx C C' (upN ns b) rs'.length _, rfl, rfl, u.sat, u.ext, u.fr, rfl, u.vrV hV hokv, fun n hn => ?_⟩
  rcases hn with h | ⟨i, hi, rfl⟩
  · exact .inl h
  · by_cases h1 : i < ns.length
    · left
      rw [oldA i h1]
      exact inA _ (getns i h1)
    · have := newA i (by omega) hi
      exact .inr ⟨this.1, this.2.1⟩
end Go.Ev
namespace Go.Ev
open Go Go.RowKit
variable {P : Program} {b : Nat}

def namesC : V → List Nat
  | .ref p _ _ => [p.1]
  | .ptr p _ _ => [p.1]
  | _ => []
def namesA : V → List Nat
  | .agg cs => cs.flatMap namesC
  | x => namesC x
def namesV : V → List Nat
  | .clo _ cs => cs.flatMap namesA
  | x => namesA x

theorem namesC_A {c : V} {n : Nat} (h : n ∈ namesC c) : n ∈ namesA c := by
  cases c <;> first | exact h | (simp [namesC] at h)

theorem names_cells {x c : V} (h : c ∈ x.cells) : ∀ n, n ∈ namesC c → n ∈ namesV x := by
  intro n hn
  cases x with
  | agg cs => exact List.mem_flatMap.2 ⟨c, h, hn⟩
  | _ => simp only [V.cells, List.mem_singleton] at h; subst h; first | exact namesC_A hn | (simp [namesC] at hn)

theorem getP_agree {R R' : Rs} {p : Pl} (h : R p.1 = R' p.1) : getP R p = getP R' p := getP_congr h

theorem elsOf_congr {R R' : Rs} {x : V} (h : ∀ n, n ∈ namesV x → R n = R' n) : elsOf R x = elsOf R' x := by
  cases x <;> first | rfl | (simp only [elsOf]; rw [getP_agree (h _ (by simp [namesV, namesA, namesC]))])

theorem srcK_congr {R R' : Rs} {ie : TI} {n : Nat} {x : V} {ys} (h : ∀ n, n ∈ namesV x → R n = R' n) : srcK ie R n x ys = srcK ie R' n x ys := by
  unfold srcK
  split
  · rfl
  · rw [h _ (by simp [namesV, namesA, namesC])]
  · rfl
  · rfl

theorem absCell_congr {R R' : Rs} {c : V} (h : ∀ n, n ∈ namesC c → R n = R' n) : absCell R c = absCell R' c := by
  unfold absCell
  split
  · rw [h _ (by simp [namesC])]
  · rfl

theorem absCond_congr {R R' : Rs} {c : V} (h : ∀ n, n ∈ namesC c → R n = R' n) : absCond R c = absCond R' c := by
  unfold absCond
  split
  · rw [h _ (by simp [namesC])]
  · rfl
  · rfl

theorem act_congr {tab : Nat → TI} {L L' : Operand → V} {R R' : Rs} {o : Op} (hL : ∀ x, x ∈ o.operands.toList → L x = L' x) (h : ∀ x, x ∈ o.operands.toList → ∀ n, n ∈ namesV (L x) → R n = R' n) : act tab L R b o = act tab L' R' b o := by
  cases o with
  | move x => simp only [act, hL x (by simp [Op.operands])]
  | assign x => simp only [act, hL x (by simp [Op.operands])]
  | nilCheck x => simp only [act, hL x (by simp [Op.operands])]
  | pick c x y => simp only [act, hL c (by simp [Op.operands]), hL x (by simp [Op.operands]), hL y (by simp [Op.operands])]
  | alloc t => rfl
  | box t x => simp only [act, hL x (by simp [Op.operands])]
  | build t ps =>
    simp only [act]
    congr 2
    refine List.map_congr_left fun p hp => ?_
    rw [hL p.2 (by simp only [Op.operands, List.toList_toArray]; exact List.mem_map.2 ⟨p, hp, rfl⟩)]
  | buildSlice t len ps =>
    have hmem : ∀ p, p ∈ ps.toList → p.2 ∈ (Op.buildSlice t len ps).operands.toList := fun p hp => by simp only [Op.operands, List.toList_toArray]; exact List.mem_map.2 ⟨p, hp, rfl⟩
    have e1 : (ps.toList.map fun p => (p.1, L p.2)) = ps.toList.map fun p => (p.1, L' p.2) := List.map_congr_left fun p hp => by rw [hL p.2 (hmem p hp)]
    simp only [act]
    rw [← e1]
    have hc : ∀ x, x ∈ cellsOf ((ps.toList.map fun p => (p.1, L p.2)).map (·.2)) → ∀ c, c ∈ x → ∀ n, n ∈ namesC c → R n = R' n := by
      intro x hx c hcx n hn
      simp only [cellsOf, List.map_map, List.mem_map, Function.comp] at hx
      obtain ⟨p, hp, rfl⟩ := hx
      exact h p.2 (hmem p hp) n (names_cells hcx n hn)
    have e2 : ∀ els : List (List V), (∀ x, x ∈ els → ∀ c, c ∈ x → ∀ n, n ∈ namesC c → R n = R' n) → els.flatten.map (absCond R) = els.flatten.map (absCond R') ∧ els.map (·.map (absCell R)) = els.map (·.map (absCell R')) := by
      intro els he
      refine ⟨List.map_congr_left fun c hcm => ?_, List.map_congr_left fun x hx => List.map_congr_left fun c hcm => absCell_congr (he x hx c hcm)⟩
      obtain ⟨x, hx, hcx⟩ := List.mem_flatten.1 hcm
      exact absCond_congr (he x hx c hcx)
    obtain ⟨e3, e4⟩ := e2 _ hc
    simp only [buildSliceV, e3, e4]
  | load t a =>
    simp only [act, ← hL a (by simp [Op.operands])]
    have := h a (by simp [Op.operands])
    congr 1
    unfold loadV
    cases hx : L a <;> first | rfl | (rw [hx] at this; dsimp only; rw [getP_agree (this _ (by simp [namesV, namesA, namesC]))])
  | store t a x =>
    simp only [act, ← hL a (by simp [Op.operands]), ← hL x (by simp [Op.operands])]
    have := h a (by simp [Op.operands])
    congr 1
    unfold storeV
    cases hx : L a <;> first | rfl | (rw [hx] at this; dsimp only; rw [getP_agree (this _ (by simp [namesV, namesA, namesC])), this _ (by simp [namesV, namesA, namesC])])
  | fieldAddr s x f => simp only [act, hL x (by simp [Op.operands])]
  | field s x f => simp only [act, hL x (by simp [Op.operands])]
  | indexAddr t x i =>
    simp only [act, ← hL x (by simp [Op.operands]), ← hL i (by simp [Op.operands])]
    have := h x (by simp [Op.operands])
    congr 1
    cases hx : L x with
    | ref p off len =>
      rw [hx] at this
      have e : getP R p = getP R' p := getP_agree (this _ (by simp [namesV, namesA, namesC]))
      cases L i with
      | val u => cases u <;> first | rfl | simp only [indexAddrV, e]
      | _ => rfl
    | list sz xs =>
      cases L i with
      | val u => cases u <;> rfl
      | _ => rfl
    | _ => rfl
  | extract x n => simp only [act, hL x (by simp [Op.operands])]
  | binOp op t x y u =>
    simp only [act, ← hL x (by simp [Op.operands]), ← hL y (by simp [Op.operands])]
    have := h x (by simp [Op.operands])
    congr 2
    cases hx : L x with
    | ref p off len =>
      rw [hx] at this
      simp only [eqNilV]
      rw [getP_agree (R := R) (R' := R') (p := p) (this _ (by simp [namesV, namesA, namesC]))]
    | val u => cases u <;> rfl
    | _ => rfl
  | unOp op t x => simp only [act, hL x (by simp [Op.operands])]
  | convert s d x => simp only [act, hL x (by simp [Op.operands])]
  | makeSlice t l c => simp only [act, hL l (by simp [Op.operands]), hL c (by simp [Op.operands])]
  | slice t x lo hi mx =>
    cases mx with
    | some _ => rfl
    | none =>
      have e1 : lo.map L = lo.map L' := by cases lo with
        | none => rfl
        | some l => simp only [Option.map_some]; rw [hL l (by simp [Op.operands])]
      have e2 : hi.map L = hi.map L' := by cases hi with
        | none => rfl
        | some l => simp only [Option.map_some]; rw [hL l (by simp [Op.operands])]
      simp only [act, ← hL x (by simp [Op.operands]), ← e1, ← e2]
      have := h x (by simp [Op.operands])
      congr 2
      unfold sliceV
      cases hx : L x <;> first | rfl | (rw [hx] at this; dsimp only; rw [getP_agree (this _ (by simp [namesV, namesA, namesC]))])
  | makeFunc fn first caps =>
    have e1 : first.toList.map L = first.toList.map L' := List.map_congr_left fun p hp => hL p (by simp [Op.operands]; exact .inl (by simpa using hp))
    have e2 : caps.toList.map L = caps.toList.map L' := List.map_congr_left fun p hp => hL p (by simp [Op.operands]; exact .inr (by simpa using hp))
    simp only [act, e1, e2]
  | call c =>
    obtain ⟨callee, args, ts⟩ := c
    cases callee with
    | builtin bi =>
      have ho : (Op.call ⟨.builtin bi, args, ts⟩).operands.toList = args.toList := by simp [Op.operands, Call.operands]
      rw [ho] at hL h
      simp only [act]
      unfold callV
      split
      · rename_i x t e1 e2
        rw [hL x (by rw [e1]; simp)]
      · rename_i s x t u e1 e2
        rw [← hL s (by rw [e1]; simp), ← hL x (by rw [e1]; simp)]
        have hs := h s (by rw [e1]; simp)
        have hx := h x (by rw [e1]; simp)
        have e0 : append0V R (L s) (L x) = append0V R' (L s) (L x) := by
          cases e : L s with
          | ref p off len =>
            rw [e] at hs
            simp only [append0V]
            rw [getP_agree (R := R) (R' := R') (p := p) (hs _ (by simp [namesV, namesA, namesC]))]
          | _ => rfl
        rw [e0]
        congr 3
        unfold appendV
        rw [elsOf_congr hx]
        cases elsOf R' (L x) with
        | none => rfl
        | some q =>
          obtain ⟨sz, ys⟩ := q
          dsimp only
          split
          · rename_i n len e3
            rw [e3] at hs
            rw [srcK_congr hx, hs n (by simp [namesV, namesA, namesC])]
          · rw [srcK_congr hx]
          · rfl
      · rename_i x t e1 e2
        rw [hL x (by rw [e1]; simp)]
      · rename_i d s t u e1 e2
        rw [← hL d (by rw [e1]; simp), ← hL s (by rw [e1]; simp)]
        have hd := h d (by rw [e1]; simp)
        have hs := h s (by rw [e1]; simp)
        congr 1
        unfold copyV
        rw [elsOf_congr hs]
        cases elsOf R' (L s) with
        | none => rfl
        | some q =>
          obtain ⟨sz, ys⟩ := q
          dsimp only
          cases e : L d with
          | ref p off len =>
            rw [e] at hd
            dsimp only
            rw [getP_agree (R := R) (R' := R') (p := p) (hd _ (by simp [namesV, namesA, namesC])), hd p.1 (by simp [namesV, namesA, namesC])]
          | _ => rfl
      · rename_i x y e1
        rw [hL x (by rw [e1]; simp), hL y (by rw [e1]; simp)]
      · rename_i x y e1
        rw [hL x (by rw [e1]; simp), hL y (by rw [e1]; simp)]
      · rfl
    | value f => rfl
    | invoke r m => rfl
  | _ => rfl
end Go.Ev
namespace Go.Ev
open Go Go.RowKit

structure Env where
  P : Program
  tab : Nat → TI
  nt : Nat
  ok : TabOK P tab
  mo : P.follows .mixedOrders = true
  k0 : Nat := 0

/-- What is kept since the start: the names below k0 came from outside. -/
structure Kp (k0 : Nat) (C0 C : Cx) : Prop where
  fr : Fr C0 C
  ex : Ext C0 C
  lt : ∀ n, C0.A n → n < k0

theorem Kp.next {k0 : Nat} {C0 C C' : Cx} (h : Kp k0 C0 C) (e : Ext C C') (f : Fr C C') : Kp k0 C0 C' := ⟨h.fr.trans f, h.ex.trans e, h.lt⟩

variable {E : Env} {b : Nat}

def putF (T : Nat → V) (d : Option Nat) (v : V) : Nat → V :=
  match d with
  | some d => fun t => if d = t then v else T t
  | none => T

def notClo : V → Bool
  | .clo .. => false
  | _ => true

def calleeOf (L : Operand → V) (c : Call) : Option (FuncId × List V) :=
  match c.callee with
  | .value fo =>
    match L fo with
    | .val (.func (.func f) fi ca) => if fi.isEmpty = true ∧ ca.isEmpty = true then some (f, c.args.toList.map L) else none
    | .clo f cs => if cs.all notClo = true then some (f, c.args.toList.map L ++ cs) else none
    | _ => none
  | _ => none

/-- What looks at no root. -/
def pureOp : Op → Bool
  | .move _ | .assign _ | .nilCheck _ | .pick _ _ _ | .alloc _ | .box _ _ | .build _ _ | .fieldAddr _ _ _ | .field _ _ _ | .extract _ _ | .unOp _ _ _ | .convert _ _ _ | .makeSlice _ _ _ | .makeFunc _ _ _ => true
  | _ => false
def opNames (L : Operand → V) (o : Op) : List Nat := if pureOp o = true then [] else o.operands.toList.flatMap fun x => namesV (L x)

theorem act_pure {tab : Nat → TI} {L : Operand → V} {R R' : Rs} {b : Nat} {o : Op} (h : pureOp o = true) : act tab L R b o = act tab L R' b o := by
  cases o <;> first | rfl | simp [pureOp] at h

def dstOf (ops : Array Oper) (j : Nat) : Option Nat := (ops[j]?).bind (·.dst)

/-- Is the operation wanted, and why. -/
def WantOK (nt : Nat) (ops : Array Oper) (o : Oper) (T : Nat → V) (yes : Bool) : Prop :=
  match o.guard with
  | none => yes = true
  | some (j, w) => ∃ d, dstOf ops j = some d ∧ d < nt ∧ ((∃ t, T d = .val (.bool t) ∧ yes = (t == w)) ∨ (T d = .val undef ∧ yes = false))

/-- What an operation gives: the value, the names that it looks at, the roots that it writes. -/
def Eff (E : Env) (ops : Array Oper) (bi : Nat) (o : Oper) (T : Nat → V) (R : Rs) (v : V) (nm : List Nat) (wr : List (Nat × Option Root)) : Prop :=
  (WantOK E.nt ops o T false ∧ v = .val undef ∧ nm = [] ∧ wr = []) ∨
  (WantOK E.nt ops o T true ∧ nm = opNames (lookO E.nt T) o.op ∧
    ((∃ out, act E.tab (lookO E.nt T) R bi o.op = some out ∧ out.c ∧ v = out.v ∧ wr = out.wr) ∨
     ∃ c f xs ys gv rs, o.op = .call c ∧ calleeOf (lookO E.nt T) c = some (f, xs) ∧ FrzA R xs ys ∧ Good E.P f ys gv rs ∧ rs.length ≤ 8 ∧ v = shV bi gv ∧ wr = newsL bi rs)) ∨
  (WantOK E.nt ops o T true ∧ ∃ c f xs ys gv rs rs' ns zs, o.op = .call c ∧ calleeOf (lookO E.nt T) c = some (f, xs) ∧ nm = opNames (lookO E.nt T) o.op ++ (ns ++ zs) ∧ GoodR E.P f ys rs gv rs' ∧ ns.Nodup ∧ HandL R ns ns.length ns rs ∧ (∀ z, z ∈ zs → z ∉ ns) ∧ ArgR R ns zs xs ys ∧ rs'.length - rs.length ≤ 8 ∧ v = rnV (upN ns bi) gv ∧ wr = wrR ns zs bi rs')

theorem lookO_congr {nt : Nat} {T T' : Nat → V} {x : Operand} (h : ∀ t, x = .tmp t → T t = T' t) : lookO nt T x = lookO nt T' x := by
  cases x with
  | tmp t => simp only [lookO, h t rfl]
  | _ => rfl

theorem FrzC.congr {R R' : Rs} {x y : V} (h : FrzC R x y) (hn : ∀ n, n ∈ namesC x → R n = R' n) : FrzC R' x y := by
  cases h with
  | same h => exact .same h
  | any => exact .any
  | ref h hc hz => exact .ref (by rw [← getP_agree (hn _ (by simp [namesC]))]; exact h) hc hz

theorem FrzL.congr {R R' : Rs} {cs ds : List V} (h : FrzL R cs ds) (hn : ∀ c, c ∈ cs → ∀ n, n ∈ namesC c → R n = R' n) : FrzL R' cs ds := by
  induction h with
  | nil => exact .nil
  | cons h k ih => exact .cons (h.congr (hn _ (by simp))) (ih fun c hc => hn c (by simp [hc]))

theorem Frz.congr {R R' : Rs} {x y : V} (h : Frz R x y) (hn : ∀ n, n ∈ namesV x → R n = R' n) : Frz R' x y := by
  cases h with
  | cell h => exact .cell (h.congr (fun n h1 => hn n (by cases x <;> first | exact namesC_A h1 | (simp [namesC] at h1))))
  | agg h => exact .agg (h.congr fun c hc n h1 => hn n (List.mem_flatMap.2 ⟨c, hc, h1⟩))
  | clo h => exact .clo (h.congr fun c hc n h1 => hn n (List.mem_flatMap.2 ⟨c, hc, namesC_A h1⟩))

theorem FrzA.congr {R R' : Rs} {cs ds : List V} (h : FrzA R cs ds) (hn : ∀ c, c ∈ cs → ∀ n, n ∈ namesV c → R n = R' n) : FrzA R' cs ds := by
  induction h with
  | nil => exact .nil
  | cons h k ih => exact .cons (h.congr (hn _ (by simp))) (ih fun c hc => hn c (by simp [hc]))

theorem ArgR.congr {R R' : Rs} {ns zs : List Nat} {xs ys : List V} (h : ArgR R ns zs xs ys) (hn : ∀ c, c ∈ xs → ∀ n, n ∈ namesV c → R n = R' n) : ArgR R' ns zs xs ys := by
  induction h with
  | nil => exact .nil
  | ren h ok k ih => exact .ren h ok (ih fun c hc => hn c (by simp [hc]))
  | frz h k ih => exact .frz (h.congr fun n h1 => by rw [hn _ (by simp) n h1]) (ih fun c hc => hn c (by simp [hc]))

theorem callee_names {L : Operand → V} {c : Call} {f : FuncId} {xs : List V} (h : calleeOf L c = some (f, xs)) : ∀ x, x ∈ xs → (∀ n, n ∈ namesV x → n ∈ opNames L (.call c)) := by
  intro x hx n hn
  obtain ⟨callee, args, ts⟩ := c
  have inargs : x ∈ args.toList.map L → n ∈ opNames L (.call ⟨callee, args, ts⟩) := by
    intro hm
    obtain ⟨y, hy, rfl⟩ := List.mem_map.1 hm
    exact List.mem_flatMap.2 ⟨y, by simp only [Op.operands, Call.operands, Array.toList_append]; exact List.mem_append.2 (.inr hy), hn⟩
  cases callee with
  | value fo =>
    simp only [calleeOf] at h
    split at h
    · split at h
      · simp only [Option.some.injEq, Prod.mk.injEq] at h
        obtain ⟨rfl, rfl⟩ := h
        exact inargs hx
      · cases h
    · rename_i f' cs e
      split at h
      · rename_i hall
        simp only [Option.some.injEq, Prod.mk.injEq] at h
        obtain ⟨rfl, rfl⟩ := h
        rcases List.mem_append.1 hx with hx | hx
        · exact inargs hx
        · refine List.mem_flatMap.2 ⟨fo, by simp [Op.operands, Call.operands], ?_⟩
          rw [e]
          have := List.all_eq_true.1 hall x hx
          exact List.mem_flatMap.2 ⟨x, hx, by cases x <;> first | exact hn | (simp [notClo] at this)⟩
      · cases h
    · cases h
  | _ => simp [calleeOf] at h

/-- What an operation looks at stays: it gives the same. -/
theorem Eff.congr {ops : Array Oper} {bi : Nat} {o : Oper} {T T' : Nat → V} {R R' : Rs} {v : V} {nm : List Nat} {wr : List (Nat × Option Root)} (h : Eff E ops bi o T R v nm wr)
    (hT : ∀ t, t ∈ o.looksAt ops → T t = T' t) (hR : ∀ n, n ∈ nm → R n = R' n) : Eff E ops bi o T' R' v nm wr := by
  have hW : ∀ y, WantOK E.nt ops o T y → WantOK E.nt ops o T' y := by
    intro y hy
    unfold WantOK at hy ⊢
    cases hg : o.guard with
    | none => rw [hg] at hy; exact hy
    | some jw =>
      obtain ⟨j, w⟩ := jw
      rw [hg] at hy
      obtain ⟨d, h1, h2, h3⟩ := hy
      refine ⟨d, h1, h2, ?_⟩
      rw [← hT d ?_]
      · exact h3
      · unfold Oper.looksAt
        rw [hg]
        refine List.mem_append.2 (.inr ?_)
        show d ∈ ((ops[j]?).bind (·.dst)).toList
        have : (ops[j]?).bind (·.dst) = some d := h1
        rw [this]; simp
  have hL : ∀ x, x ∈ o.op.operands.toList → lookO E.nt T x = lookO E.nt T' x := by
    intro x hx
    refine lookO_congr fun t e => hT t ?_
    unfold Oper.looksAt
    exact List.mem_append.2 (.inl (List.mem_filterMap.2 ⟨x, hx, by rw [e]⟩))
  rcases h with ⟨h1, h2⟩ | ⟨h1, rfl, h2⟩ | ⟨h1, c, f, xs, ys, gv, rs, rs', ns, zs, k1, k2, rfl, k3, k4, k5, k6, k7, k8⟩
  · exact .inl ⟨hW _ h1, h2⟩
  rotate_left
  · have hop : ∀ c : Call, o.op = .call c → calleeOf (lookO E.nt T) c = calleeOf (lookO E.nt T') c := by
      intro c k1
      rw [k1] at hL
      obtain ⟨callee, args, ts⟩ := c
      cases callee with
      | value fo =>
        have e1 : lookO E.nt T fo = lookO E.nt T' fo := hL fo (by simp [Op.operands, Call.operands])
        have e2 : args.toList.map (lookO E.nt T) = args.toList.map (lookO E.nt T') := List.map_congr_left fun x hx => hL x (by simp [Op.operands, Call.operands]; exact .inr (by simpa using hx))
        simp only [calleeOf, ← e1, ← e2]
      | _ => rfl
    have hn : opNames (lookO E.nt T) o.op = opNames (lookO E.nt T') o.op := by
      unfold opNames
      split
      · rfl
      have : ∀ l : List Operand, (∀ x, x ∈ l → lookO E.nt T x = lookO E.nt T' x) → l.flatMap (fun x => namesV (lookO E.nt T x)) = l.flatMap fun x => namesV (lookO E.nt T' x) := by
        intro l hl
        induction l with
        | nil => rfl
        | cons x l ih => simp only [List.flatMap_cons, hl x (by simp), ih fun y hy => hl y (by simp [hy])]
      exact this _ hL
    refine .inr (.inr ⟨hW _ h1, c, f, xs, ys, gv, rs, rs', ns, zs, k1, (hop c k1).symm.trans k2, by rw [hn], k3, k4, handL_congr k5 fun n hn => hR n (by simp [hn]), k6, k7.congr fun x hx n hnn => hR n ?_, k8⟩)
    rw [k1]
    exact List.mem_append.2 (.inl (callee_names k2 x hx n hnn))
  · have hn : opNames (lookO E.nt T) o.op = opNames (lookO E.nt T') o.op := by
      unfold opNames
      split
      · rfl
      have : ∀ l : List Operand, (∀ x, x ∈ l → lookO E.nt T x = lookO E.nt T' x) → l.flatMap (fun x => namesV (lookO E.nt T x)) = l.flatMap fun x => namesV (lookO E.nt T' x) := by
        intro l hl
        induction l with
        | nil => rfl
        | cons x l ih => simp only [List.flatMap_cons, hl x (by simp), ih fun y hy => hl y (by simp [hy])]
      exact this _ hL
    have hA : ∀ b, act E.tab (lookO E.nt T) R b o.op = act E.tab (lookO E.nt T') R' b o.op := by
      intro b
      by_cases hp : pureOp o.op = true
      · rw [act_pure (R' := R') hp]
        exact act_congr hL fun _ _ _ _ => rfl
      · exact act_congr hL fun x hx n hnn => hR n (by unfold opNames; rw [if_neg hp]; exact List.mem_flatMap.2 ⟨x, hx, hnn⟩)
    refine .inr (.inl ⟨hW _ h1, hn, ?_⟩)
    rcases h2 with ⟨out, k1, k2, k3, k4⟩ | ⟨c, f, xs, ys, gv, rs, k1, k2, k3, k4⟩
    · exact .inl ⟨out, by rw [← hA]; exact k1, k2, k3, k4⟩
    · refine .inr ⟨c, f, xs, ys, gv, rs, k1, ?_, k3.congr ?_, k4⟩
      · rw [← k2]
        rw [k1] at hL
        obtain ⟨callee, args, ts⟩ := c
        cases callee with
        | value fo =>
          have e1 : lookO E.nt T fo = lookO E.nt T' fo := hL fo (by simp [Op.operands, Call.operands])
          have e2 : args.toList.map (lookO E.nt T) = args.toList.map (lookO E.nt T') := List.map_congr_left fun x hx => hL x (by simp [Op.operands, Call.operands]; exact .inr (by simpa using hx))
          simp only [calleeOf, ← e1, ← e2]
        | _ => rfl
      · intro x hx n hnn
        refine hR n ?_
        rw [k1]
        exact callee_names k2 x hx n hnn

def keysOf (wr : List (Nat × Option Root)) : List Nat := wr.map (·.1)

theorem applyF_other : ∀ (wr : List (Nat × Option Root)) (R : Rs) (n : Nat), n ∉ keysOf wr → applyF R wr n = R n
  | [], R, n, _ => rfl
  | (k, x) :: wr, R, n, h => by
    simp only [keysOf, List.map_cons, List.mem_cons, not_or] at h
    rw [applyF, applyF_other wr _ n h.2, if_neg h.1]

theorem applyF_in : ∀ (wr : List (Nat × Option Root)) (R R' : Rs) (n : Nat), n ∈ keysOf wr → applyF R wr n = applyF R' wr n
  | (k, x) :: wr, R, R', n, h => by
    simp only [applyF]
    by_cases hk : n ∈ keysOf wr
    · exact applyF_in wr _ _ n hk
    · rw [applyF_other wr _ n hk, applyF_other wr _ n hk]
      simp only [keysOf, List.map_cons, List.mem_cons] at h
      rcases h with h | h
      · rw [if_pos h, if_pos h]
      · exact absurd h hk

theorem applyF_comm {w1 w2 : List (Nat × Option Root)} (h : ∀ n, n ∈ keysOf w1 → n ∉ keysOf w2) (R : Rs) : applyF (applyF R w1) w2 = applyF (applyF R w2) w1 := by
  funext n
  by_cases h1 : n ∈ keysOf w1
  · rw [applyF_other w2 _ n (h n h1), applyF_in w1 R (applyF R w2) n h1]
  · rw [applyF_other w1 _ n h1]
    by_cases h2 : n ∈ keysOf w2
    · exact applyF_in w2 _ _ n h2
    · rw [applyF_other w2 _ n h2, applyF_other w2 _ n h2, applyF_other w1 _ n h1]

theorem putF_other {T : Nat → V} {d : Option Nat} {v : V} {t : Nat} (h : d ≠ some t) : putF T d v t = T t := by
  cases d with
  | none => rfl
  | some d => simp only [putF]; rw [if_neg (fun e => h (by rw [e]))]

theorem putF_comm {T : Nat → V} {d d' : Option Nat} {v v' : V} (h : ∀ k, d = some k → d' ≠ some k) : putF (putF T d v) d' v' = putF (putF T d' v') d v := by
  cases d with
  | none => rfl
  | some d =>
    cases d' with
    | none => rfl
    | some d' =>
      have := h d rfl
      funext t
      simp only [putF]
      by_cases h1 : d = t
      · subst h1
        rw [if_pos rfl, if_neg (fun e => this (by rw [e])), if_pos rfl]
      · rw [if_neg h1, if_neg h1]

/-- A step. -/
def StepR (E : Env) (ops : Array Oper) (base i : Nat) (lg : List Nat × List (Nat × Option Root)) (T : Nat → V) (R : Rs) (T1 : Nat → V) (R1 : Rs) : Prop :=
  ∃ o v, ops[i]? = some o ∧ Eff E ops (base + 8 * i) o T R v lg.1 lg.2 ∧ T1 = putF T o.dst v ∧ R1 = applyF R lg.2

/-- Two operations that may change places. -/
def Indep (ops : Array Oper) (lg : Nat → List Nat × List (Nat × Option Root)) (a i : Nat) : Prop :=
  (∀ oa oi, ops[a]? = some oa → ops[i]? = some oi → oa.apart ops oi = true) ∧ (∀ n, n ∈ (lg i).1 → n ∉ keysOf (lg a).2) ∧ (∀ n, n ∈ (lg a).1 → n ∉ keysOf (lg i).2) ∧ ∀ n, n ∈ keysOf (lg a).2 → n ∉ keysOf (lg i).2

theorem StepR.swap {ops : Array Oper} {base a i : Nat} {lg : Nat → List Nat × List (Nat × Option Root)} (hI : Indep ops lg a i) {T T1 T2 : Nat → V} {R R1 R2 : Rs}
    (h1 : StepR E ops base a (lg a) T R T1 R1) (h2 : StepR E ops base i (lg i) T1 R1 T2 R2) : ∃ T1' R1', StepR E ops base i (lg i) T R T1' R1' ∧ StepR E ops base a (lg a) T1' R1' T2 R2 := by
  obtain ⟨oa, va, ha, ea, rfl, rfl⟩ := h1
  obtain ⟨oi, vi, hi, ei, rfl, rfl⟩ := h2
  obtain ⟨i1, i2, i3, i4⟩ := hI
  obtain ⟨s1, s2, s3⟩ := Oper.apart_spec (i1 oa oi ha hi)
  refine ⟨_, _, ⟨oi, vi, hi, ei.congr (fun t ht => ?_) (fun n hn => ?_), rfl, rfl⟩, oa, va, ha, ea.congr (fun t ht => ?_) (fun n hn => ?_), ?_, ?_⟩
  · exact putF_other fun e => s1 t e ht
  · exact applyF_other _ _ _ (i2 n hn)
  · exact (putF_other fun e => s3 t e ht).symm
  · exact (applyF_other _ _ _ (i3 n hn)).symm
  · exact putF_comm s2
  · exact applyF_comm i4 R

/-- Operations one behind the other. -/
def Chain (E : Env) (ops : Array Oper) (base : Nat) (lg : Nat → List Nat × List (Nat × Option Root)) : List Nat → (Nat → V) → Rs → (Nat → V) → Rs → Prop
  | [], T, R, T', R' => T = T' ∧ R = R'
  | i :: l, T, R, T', R' => ∃ T1 R1, StepR E ops base i (lg i) T R T1 R1 ∧ Chain E ops base lg l T1 R1 T' R'

theorem Chain.first {ops : Array Oper} {base i : Nat} {lg : Nat → List Nat × List (Nat × Option Root)} : ∀ (l1 l2 : List Nat) {T T' : Nat → V} {R R' : Rs}, Chain E ops base lg (l1 ++ i :: l2) T R T' R' → (∀ a, a ∈ l1 → Indep ops lg a i) → Chain E ops base lg (i :: (l1 ++ l2)) T R T' R'
  | [], l2, T, T', R, R', h, _ => h
  | a :: l1, l2, T, T', R, R', h, hI => by
    obtain ⟨T1, R1, h1, h2⟩ := h
    obtain ⟨T2, R2, h3, h4⟩ := Chain.first l1 l2 h2 fun x hx => hI x (by simp [hx])
    obtain ⟨T1', R1', k1, k2⟩ := StepR.swap (hI a (by simp)) h1 h3
    exact ⟨T1', R1', k1, T2, R2, k2, h4⟩
end Go.Ev
namespace Go.Ev
open Go Go.RowKit
variable {E : Env} {C0 : Cx}

/-- The concrete state tells the abstract one. -/
def Inv (E : Env) (C0 : Cx) (base : Nat) (S : Nat → Prop) (T : Nat → V) (R : Rs) (a : Act) (w : World) : Prop :=
  ∃ C, C.w = w ∧ Sat C ∧ C.R = R ∧ (∀ t, t < E.nt → VR C (a.tmps.getD t undef) (T t)) ∧ a.tmps.size = E.nt ∧ a.defers = [] ∧ Kp E.k0 C0 C ∧ ∀ n, C.A n → n < base ∨ ∃ j, S j ∧ base + 8 * j ≤ n ∧ n < base + 8 * j + 8

theorem put_rep {C : Cx} {a : Act} {T : Nat → V} {nt : Nat} (h : ∀ t, t < nt → VR C (a.tmps.getD t undef) (T t)) (hs : a.tmps.size = nt) {d : Option Nat} {v' : Value} {v : V} (hv : VR C v' v) :
    (∀ t, t < nt → VR C ((a.put d v').tmps.getD t undef) (putF T d v t)) ∧ (a.put d v').tmps.size = nt ∧ (a.put d v').defers = a.defers := by
  cases d with
  | none => exact ⟨h, hs, rfl⟩
  | some d =>
    refine ⟨fun t ht => ?_, by simp [Act.put, hs], rfl⟩
    simp only [Act.put, putF]
    by_cases e : d = t
    · subst e
      rw [if_pos rfl]
      have : (a.tmps.setIfInBounds d v').getD d undef = v' := by
        rw [Array.getD_eq_getD_getElem?, Array.getElem?_setIfInBounds]
        rw [if_pos rfl, if_pos (by omega)]
        rfl
      rw [this]; exact hv
    · rw [if_neg e]
      have : (a.tmps.setIfInBounds d v').getD t undef = a.tmps.getD t undef := by
        rw [Array.getD_eq_getD_getElem?, Array.getElem?_setIfInBounds, if_neg e, ← Array.getD_eq_getD_getElem?]
      rw [this]; exact h t ht

theorem want_wanted {C : Cx} {a : Act} {T : Nat → V} {nt : Nat} (h : ∀ t, t < nt → VR C (a.tmps.getD t undef) (T t)) (hs : a.tmps.size = nt) {ops : Array Oper} {o : Oper} {y : Bool} (hw : WantOK nt ops o T y) : Region.wanted o (yielded ops a.tmps) = y := by
  unfold WantOK at hw
  unfold Region.wanted
  cases hg : o.guard with
  | none => rw [hg] at hw; exact hw.symm
  | some jw =>
    obtain ⟨j, w⟩ := jw
    rw [hg] at hw
    obtain ⟨d, h1, h2, h3⟩ := hw
    have h6 : (ops[j]?).bind (·.dst) = some d := h1
    have at_ : ∀ u, T d = .val u → a.tmps[d]? = some u := by
      intro u hu
      have h4 := (hu ▸ h d h2).val_inv
      rw [Array.getD_eq_getD_getElem?] at h4
      have hlt : d < a.tmps.size := by omega
      rw [Array.getElem?_eq_getElem hlt] at h4 ⊢
      exact congrArg some h4
    rcases h3 with ⟨t, h3, rfl⟩ | ⟨h3, rfl⟩
    · have : yielded ops a.tmps j = some t := by
        simp only [yielded, h6, Option.bind_some, at_ _ h3]
      dsimp only
      rw [this]
      cases t <;> cases w <;> rfl
    · have : yielded ops a.tmps j = none := by
        simp only [yielded, h6, Option.bind_some, at_ _ h3, undef]
      dsimp only
      rw [this]
      cases w <;> rfl

theorem eval_rep {C : Cx} {a : Act} {T : Nat → V} {nt : Nat} (h : ∀ t, t < nt → VR C (a.tmps.getD t undef) (T t)) (x : Operand) : VR C (a.eval x) (lookO nt T x) := by
  cases x with
  | tmp t =>
    simp only [lookO]
    split
    · rename_i ht; exact h t ht
    · exact .fro (.any _)
  | const v => exact .fro (.val v)
  | func f => exact .fro (.val _)
  | global g => exact .fro (.any _)

theorem run_call {C : Cx} {ρ : Operand → Value} {L : Operand → V} (hL : ∀ x, VR C (ρ x) (L x)) {P : Program} {o : Oper} {c : Call} (ho : o.op = .call c) {f : FuncId} {xs : List V} (hc : calleeOf L c = some (f, xs)) (hf : Callable P f) (w : World) :
    ∃ vals : Array Value, (execOp ρ o).run P w = .ok (.enter f vals) w ∧ vals.size = xs.length ∧ ∀ (i : Nat) v x, vals[i]? = some v → xs[i]? = some x → VR C v x := by
  obtain ⟨fn, h1, h2, h3⟩ := hf
  have hcall : ∀ vals : Array Value, (callFunc f vals).run P w = .ok (.enter f vals) w := by
    intro vals
    simp only [callFunc, Sem.run_bind, run_program, Result.andThen_ok, h1, h2, h3, Bool.false_eq_true, if_false, Sem.run_pure]
  have hargs : ∀ (args : Array Operand) (i : Nat) v x, (args.map ρ)[i]? = some v → (args.toList.map L)[i]? = some x → VR C v x := by
    intro args i v x hv hx
    rw [List.getElem?_map, Option.map_eq_some_iff] at hx
    obtain ⟨y, hy, rfl⟩ := hx
    have hy' : args[i]? = some y := by simpa using hy
    rw [Array.getElem?_map, hy'] at hv
    cases hv
    exact hL y
  obtain ⟨callee, args, ts⟩ := c
  cases callee with
  | value fo =>
    simp only [calleeOf] at hc
    have hfo := hL fo
    split at hc
    · rename_i f' fi ca e
      split at hc
      · rename_i hemp
        simp only [Option.some.injEq, Prod.mk.injEq] at hc
        obtain ⟨rfl, rfl⟩ := hc
        rw [e] at hfo
        have e2 := hfo.val_inv
        have e3 : fi = #[] := Array.isEmpty_iff.1 hemp.1
        have e4 : ca = #[] := Array.isEmpty_iff.1 hemp.2
        subst e3; subst e4
        refine ⟨args.map ρ, ?_, by simp, hargs args⟩
        simp [execOp, ho, resolve, e2, Deferred.ofValue, invoke, hcall]
      · cases hc
    · rename_i f' cs e
      split at hc
      · simp only [Option.some.injEq, Prod.mk.injEq] at hc
        obtain ⟨rfl, rfl⟩ := hc
        rw [e] at hfo
        obtain ⟨vs, e2, e3, e4⟩ := hfo.clo_inv
        refine ⟨args.map ρ ++ vs, ?_, by simp [e3], fun i v x hv hx => ?_⟩
        · simp [execOp, ho, resolve, e2, Deferred.ofValue, invoke, hcall]
        · by_cases hi : i < args.size
          · rw [Array.getElem?_append_left (by simpa using hi)] at hv
            rw [List.getElem?_append_left (by simpa using hi)] at hx
            exact hargs args i v x hv hx
          · rw [Array.getElem?_append_right (by simpa using hi)] at hv
            rw [List.getElem?_append_right (by simpa using hi)] at hx
            simp only [Array.size_map, List.length_map, Array.length_toList] at hv hx
            exact e4 _ v x hv hx
      · cases hc
    · cases hc
  | _ => simp [calleeOf] at hc

theorem step_exec {ops : Array Oper} {base i : Nat} {lg : List Nat × List (Nat × Option Root)} {S : Nat → Prop} {T T1 : Nat → V} {R R1 : Rs} {a : Act} {w : World} {Q : Exit → Act → World → Prop}
    (h : Inv E C0 base S T R a w) (hi : ¬ S i) (hs : StepR E ops base i lg T R T1 R1) : wpOp E.P ops Q i (fun a' w' => Inv E C0 base (fun j => S j ∨ j = i) T1 R1 a' w') a w := by
  obtain ⟨C, rfl, hC, rfl, hT, hsz, hd, hF, hA⟩ := h
  obtain ⟨o, v, ho, eff, rfl, rfl⟩ := hs
  have fresh : ∀ n, base + 8 * i ≤ n → n < base + 8 * i + 8 → ¬ C.A n := by
    intro n h1 h2 h3
    rcases hA n h3 with h4 | ⟨j, hj, h4, h5⟩
    · omega
    · have : j = i := by omega
      exact hi (this ▸ hj)
  have hA' : ∀ (C' : Cx), (∀ n, C'.A n → C.A n ∨ (base + 8 * i ≤ n ∧ n < base + 8 * i + 8)) → ∀ n, C'.A n → n < base ∨ ∃ j, (S j ∨ j = i) ∧ base + 8 * j ≤ n ∧ n < base + 8 * j + 8 := by
    intro C' h n hn
    rcases h n hn with h1 | h1
    · rcases hA n h1 with h2 | ⟨j, hj, h2⟩
      · exact .inl h2
      · exact .inr ⟨j, .inl hj, h2⟩
    · exact .inr ⟨i, .inr rfl, h1⟩
  unfold wpOp
  rw [ho]
  dsimp only
  rcases eff with ⟨hw, rfl, _, hwr⟩ | ⟨hw, _, hact⟩ | ⟨hw, c, f, xs, ys, gv, rs, rs', ns, zs, k1, k2, _, k3, k4, k5, k6, k7, k8, rfl, k9⟩
  · rw [want_wanted hT hsz hw]
    simp only [Bool.false_eq_true, if_false]
    obtain ⟨p1, p2, p3⟩ := put_rep (d := o.dst) (v' := undef) hT hsz (.fro (.val undef))
    exact ⟨C, rfl, hC, by rw [hwr]; rfl, p1, p2, p3.trans hd, hF, hA' C fun n hn => .inl hn⟩
  · rw [want_wanted hT hsz hw]
    simp only [if_true]
    left
    have hL := fun x => eval_rep hT x
    rcases hact with ⟨out, k1, k2, rfl, k4⟩ | ⟨c, f, xs, ys, gv, rs, k1, k2, k3, k4, k5, rfl, k7⟩
    · obtain ⟨nx, v', C', r1, r2, r3, r4, r5, r6, r7, r8⟩ := act_sound (P := E.P) E.ok hC hL (fresh (base + 8 * i) (Nat.le_refl _) (by omega)) (o := o) k1 k2
      have hT' : ∀ t, t < E.nt → VR C' (a.tmps.getD t undef) (T t) := fun t ht => (hT t ht).ext r4
      obtain ⟨p1, p2, p3⟩ := put_rep (d := o.dst) hT' hsz r7
      have fin : Inv E C0 base (fun j => S j ∨ j = i) (putF T o.dst out.v) (applyF C.R lg.2) (a.put o.dst v') C'.w :=
        ⟨C', rfl, r3, by rw [r6, k4], p1, p2, p3.trans hd, hF.next r4 r5, hA' C' fun n hn => (r8 n hn).imp id fun e => ⟨by omega, by omega⟩⟩
      unfold Oper.wp
      rw [r1]
      rcases r2 with rfl | ⟨rfl, rfl⟩
      · exact fin
      · exact fin
    · obtain ⟨vals, r1, r2, r3⟩ := run_call (P := E.P) hL k1 k2 k4.1 C.w
      have hcall := call_val (b := base + 8 * i) k4 hC r2 r3 k3 (fun n h1 h2 => fresh n h1 (by omega))
      unfold Oper.wp
      rw [r1]
      refine hcall.mono ?_
      rintro e w' ⟨v', C', rfl, rfl, q1, q2, q3, q4, q5, q6⟩
      have hT' : ∀ t, t < E.nt → VR C' (a.tmps.getD t undef) (T t) := fun t ht => (hT t ht).ext q2
      obtain ⟨p1, p2, p3⟩ := put_rep (d := o.dst) hT' hsz q5
      exact ⟨C', rfl, q1, by rw [q4, k7], p1, p2, p3.trans hd, hF.next q2 q3, hA' C' fun n hn => (q6 n hn).imp id fun e => ⟨e.1, by omega⟩⟩
  · rw [want_wanted hT hsz hw]
    simp only [if_true]
    left
    have hL := fun x => eval_rep hT x
    obtain ⟨vals, r1, r2, r3⟩ := run_call (P := E.P) hL k1 k2 k3.1 C.w
    have hcall := call_ref (b := base + 8 * i) k3 hC r2 r3 k4 k5 k6 k7 (fun n h1 h2 => fresh n h1 (by omega))
    unfold Oper.wp
    rw [r1]
    refine hcall.mono ?_
    rintro e w' ⟨v', C', rfl, rfl, q1, q2, q3, q4, q5, q6⟩
    have hT' : ∀ t, t < E.nt → VR C' (a.tmps.getD t undef) (T t) := fun t ht => (hT t ht).ext q2
    obtain ⟨p1, p2, p3⟩ := put_rep (d := o.dst) hT' hsz q5
    exact ⟨C', rfl, q1, by rw [q4, k9], p1, p2, p3.trans hd, hF.next q2 q3, hA' C' fun n hn => (q6 n hn).imp id fun e => ⟨e.1, by omega⟩⟩

theorem wpOps_chain {ops : Array Oper} {base : Nat} {lg : Nat → List Nat × List (Nat × Option Root)} {Q : Exit → Act → World → Prop} : ∀ (l : List Nat) {S : Nat → Prop} {T T' : Nat → V} {R R' : Rs} {a : Act} {w : World}, l.Nodup → (∀ i, i ∈ l → ¬ S i) →
    Inv E C0 base S T R a w → Chain E ops base lg l T R T' R' → (∀ S' a' w', Inv E C0 base S' T' R' a' w' → (∀ j, S' j → S j ∨ j ∈ l) → Q .normal a' w') → wpOps E.P ops Q l a w
  | [], S, T, T', R, R', a, w, _, _, h, hc, hq => by
    obtain ⟨rfl, rfl⟩ := hc
    exact hq S a w h fun j hj => .inl hj
  | i :: l, S, T, T', R, R', a, w, hn, hS, h, hc, hq => by
    obtain ⟨T1, R1, h1, h2⟩ := hc
    rw [wpOps_cons]
    refine wpOp_mono (fun a' w' h' => ?_) (step_exec h (hS i (by simp)) h1)
    have hn' := List.nodup_cons.1 hn
    refine wpOps_chain l hn'.2 (fun j hj hSj => ?_) h' h2 (fun S' a2 w2 h3 h4 => hq S' a2 w2 h3 fun j hj => ?_)
    · rcases hSj with h5 | h5
      · exact hS j (by simp [hj]) h5
      · exact hn'.1 (h5 ▸ hj)
    · rcases h4 j hj with (h5 | h5) | h5
      · exact .inl h5
      · exact .inr (by simp [h5])
      · exact .inr (by simp [h5])
end Go.Ev
namespace Go.Ev
open Go Go.RowKit
variable {E : Env} {C0 : Cx}

def InvS (E : Env) (C0 : Cx) (σ : St) (a : Act) (w : World) : Prop := Inv E C0 σ.b (fun _ => False) (lookT σ.T) (lookR σ.R) a w

/-- From a state on, the code comes to an end that is told. -/
def Ev (E : Env) (C0 : Cx) (c : Code) (K : Exit → St → Prop) (σ : St) : Prop :=
  ∀ a w, InvS E C0 σ a w → c.wp E.P (fun e a' w' => ∃ σ', K e σ' ∧ InvS E C0 σ' a' w') a w

section rules
variable {K : Exit → St → Prop} {σ : St}

theorem ev_skip (h : K .normal σ) : Ev E C0 .skip K σ := fun a w hi => wp_skip ⟨σ, h, hi⟩
theorem ev_ret (h : K .ret σ) : Ev E C0 .ret K σ := fun a w hi => wp_ret ⟨σ, h, hi⟩
theorem ev_exit {id : Nat} (h : K (.exit id) σ) : Ev E C0 (.exit id) K σ := fun a w hi => wp_exit ⟨σ, h, hi⟩

def seqK (Kb : St → Prop) (K : Exit → St → Prop) (e : Exit) (σ : St) : Prop :=
  match e with
  | .normal => Kb σ
  | e => K e σ

theorem ev_seq {x y : Code} (h : ∀ Kb : St → Prop, (∀ σ, Ev E C0 y K σ → Kb σ) → Ev E C0 x (seqK Kb K) σ) : Ev E C0 (.seq x y) K σ := by
  intro a w hi
  refine wp_seq (wp_mono (h (Ev E C0 y K) (fun _ h => h) a w hi) ?_)
  rintro e a' w' ⟨σ', hk, hi'⟩
  cases e with
  | normal => exact hk a' w' hi'
  | _ => exact ⟨σ', hk, hi'⟩

theorem ev_cond {c : Operand} {x y : Code} (t : Bool) (hc : lookO E.nt (lookT σ.T) c = .val (.bool t)) (h1 : t = true → Ev E C0 x K σ) (h2 : t = false → Ev E C0 y K σ) : Ev E C0 (.cond c x y) K σ := by
  intro a w hi
  have hv : a.eval c = .bool t := by
    obtain ⟨C, _, _, _, hT, _⟩ := hi
    have := eval_rep hT c
    rw [hc] at this
    exact this.val_inv
  exact wp_cond_split hv (fun ht => h1 ht a w hi) (fun ht => h2 ht a w hi)

def blkK (id : Nat) (K : Exit → St → Prop) (e : Exit) (σ : St) : Prop :=
  match e with
  | .exit i => if i = id then K .normal σ else K (.exit i) σ
  | e => K e σ

theorem ev_block {id : Nat} {c : Code} (h : Ev E C0 c (blkK id K) σ) : Ev E C0 (.block id c) K σ := by
  intro a w hi
  refine wp_block (wp_mono (h a w hi) ?_)
  rintro e a' w' ⟨σ', hk, hi'⟩
  cases e with
  | exit i =>
    simp only [Exit.inBlock]
    simp only [blkK] at hk
    split
    · rename_i e; rw [if_pos e] at hk; exact ⟨σ', hk, hi'⟩
    · rename_i e; rw [if_neg e] at hk; exact ⟨σ', hk, hi'⟩
  | _ => exact ⟨σ', hk, hi'⟩

/-- The second state knows no more than the first. -/
def Weak (E : Env) (C0 : Cx) (σ σ' : St) : Prop := ∀ a w, InvS E C0 σ a w → InvS E C0 σ' a w

theorem ev_weak {c : Code} {σ' : St} (hw : Weak E C0 σ σ') (h : Ev E C0 c K σ') : Ev E C0 c K σ := fun a w hi => h a w (hw a w hi)

def loopK {α : Type} (st : α → St) (μ : α → Nat) (n : Nat) (E : Env) (C0 : Cx) (K : Exit → St → Prop) (e : Exit) (σ : St) : Prop :=
  match e with
  | .normal => ∃ x, μ x < n ∧ Weak E C0 σ (st x)
  | e => K e σ

theorem ev_loop {α : Type} (st : α → St) (μ : α → Nat) {c : Code} (x0 : α) (h0 : Weak E C0 σ (st x0)) (hr : ∀ x, Ev E C0 c (loopK st μ (μ x) E C0 K) (st x)) : Ev E C0 (.loop c) K σ := by
  intro a w hi b k cs
  have key : ∀ n x, μ x = n → ∀ a w, InvS E C0 (st x) a w →
      ∃ e a' w', (∃ σ', K e σ' ∧ InvS E C0 σ' a' w') ∧ Arrives E.P (lone (b.at a (.code c :: .inLoop c :: k)) cs w) b k cs e a' w' := by
    intro n
    induction n using Nat.strongRecOn with
    | _ n ih =>
      intro x hn a w hI
      obtain ⟨e, a₁, w₁, ⟨σ₁, hq, hi₁⟩, harr⟩ := hr x a w hI b (.inLoop c :: k) cs
      cases e with
      | normal =>
        obtain ⟨y, hlt, hyw⟩ := hq
        obtain ⟨e₂, a₂, w₂, hq₂, harr₂⟩ := ih (μ y) (hn ▸ hlt) y rfl a₁ w₁ (hyw a₁ w₁ hi₁)
        exact ⟨e₂, a₂, w₂, hq₂, .of_steps (Steps.trans harr (.one step_inLoop)) harr₂⟩
      | exit id => exact ⟨_, a₁, w₁, ⟨σ₁, hq, hi₁⟩, .pass (x := .inLoop c) rfl (fun _ _ => .inl (by simp)) harr⟩
      | goto l => exact ⟨_, a₁, w₁, ⟨σ₁, hq, hi₁⟩, .pass (x := .inLoop c) rfl (fun _ _ => .inl (by simp)) harr⟩
      | ret => exact ⟨_, a₁, w₁, ⟨σ₁, hq, hi₁⟩, .pass (x := .inLoop c) rfl (fun _ _ => .inl (by simp)) harr⟩
      | panic ch => exact ⟨_, a₁, w₁, ⟨σ₁, hq, hi₁⟩, .pass (x := .inLoop c) rfl (fun _ _ => .inl (by simp)) harr⟩
      | outgrown => exact ⟨_, a₁, w₁, ⟨σ₁, hq, hi₁⟩, .pass (x := .inLoop c) rfl (fun _ _ => .inl (by simp)) harr⟩
  obtain ⟨e, a', w', hq, harr⟩ := key _ x0 rfl a w (h0 a w hi)
  exact ⟨e, a', w', hq, .of_steps (.one step_loop) harr⟩
end rules
end Go.Ev
namespace Go.Ev
open Go Go.RowKit
variable {E : Env} {C0 : Cx}

abbrev Lg := List Nat × List (Nat × Option Root)

def depsOf (o : Oper) : List Nat := o.after.toList.filterMap fun e => if Region.binds .any e = true then some e.on else none

def closL : List (List Nat) → List Oper → List (List Nat)
  | acc, [] => acc
  | acc, o :: os => closL (acc ++ [(depsOf o).flatMap fun d => d :: acc.getD d []]) os

inductive Dep (ops : List Oper) : Nat → Nat → Prop
  | one {i d : Nat} {o : Oper} (h : ops[i]? = some o) (hd : d ∈ depsOf o) : Dep ops d i
  | more {i d a : Nat} {o : Oper} (h : ops[i]? = some o) (hd : d ∈ depsOf o) (k : Dep ops a d) : Dep ops a i

theorem closL_dep {ops : List Oper} : ∀ (l pre : List Oper) (acc : List (List Nat)), ops = pre ++ l → acc.length = pre.length → (∀ (i a : Nat), a ∈ acc.getD i [] → Dep ops a i) → ∀ (i a : Nat), a ∈ (closL acc l).getD i [] → Dep ops a i
  | [], pre, acc, _, _, h => h
  | o :: l, pre, acc, he, hl, h => by
    refine closL_dep l (pre ++ [o]) _ (by rw [he]; simp) (by simp [hl]) (fun i a ha => ?_)
    have ho : ops[pre.length]? = some o := by rw [he]; simp
    rw [List.getD_eq_getElem?_getD, List.getElem?_append] at ha
    split at ha
    · rw [← List.getD_eq_getElem?_getD] at ha
      exact h i a ha
    · rename_i hge
      by_cases e : i = acc.length
      · subst e
        rw [Nat.sub_self] at ha
        simp only [List.getElem?_cons_zero, Option.getD_some] at ha
        obtain ⟨d, hd, hda⟩ := List.mem_flatMap.1 ha
        rw [hl]
        rcases List.mem_cons.1 hda with rfl | hda
        · exact .one ho hd
        · exact .more ho hd (h d a hda)
      · have : i - acc.length ≠ 0 := by omega
        obtain ⟨k, hk⟩ := Nat.exists_eq_succ_of_ne_zero this
        rw [hk] at ha
        simp at ha

def disj (xs ys : List Nat) : Bool := xs.all fun x => !ys.contains x

theorem disj_spec {xs ys : List Nat} (h : disj xs ys = true) : ∀ n, n ∈ xs → n ∉ ys := by
  intro n hn hy
  have := List.all_eq_true.1 h n hn
  simp at this
  exact this hy

def indepB (ops : Array Oper) (lgs : List Lg) (a i : Nat) : Bool :=
  (match ops[a]?, ops[i]? with
   | some oa, some oi => oa.apart ops oi
   | _, _ => true) &&
  disj (lgs.getD i ([], [])).1 (keysOf (lgs.getD a ([], [])).2) && disj (lgs.getD a ([], [])).1 (keysOf (lgs.getD i ([], [])).2) && disj (keysOf (lgs.getD a ([], [])).2) (keysOf (lgs.getD i ([], [])).2)

theorem indepB_spec {ops : Array Oper} {lgs : List Lg} {a i : Nat} (h : indepB ops lgs a i = true) : Indep ops (fun k => lgs.getD k ([], [])) a i := by
  simp only [indepB, Bool.and_eq_true] at h
  obtain ⟨⟨⟨h1, h2⟩, h3⟩, h4⟩ := h
  refine ⟨fun oa oi ha hi => ?_, disj_spec h2, disj_spec h3, disj_spec h4⟩
  rw [ha, hi] at h1
  exact h1

/-- Any order comes to the same. -/
def cfB (ops : Array Oper) (lgs : List Lg) : Bool :=
  let cl := closL [] ops.toList
  (List.range ops.size).all fun i =>
    (match ops[i]? with | some o => (depsOf o).all (fun d => decide (d < i)) | none => true) &&
    (List.range i).all fun a => (cl.getD i []).contains a || indepB ops lgs a i

theorem cfB_spec {ops : Array Oper} {lgs : List Lg} (h : cfB ops lgs = true) : (∀ (i : Nat) o, ops[i]? = some o → ∀ d, d ∈ depsOf o → d < i) ∧ ∀ a i, a < i → i < ops.size → Dep ops.toList a i ∨ Indep ops (fun k => lgs.getD k ([], [])) a i := by
  simp only [cfB] at h
  have h' := List.all_eq_true.1 h
  refine ⟨fun i o ho d hd => ?_, fun a i hai hi => ?_⟩
  · have hi := (Array.getElem?_eq_some_iff.1 ho).1
    have := h' i (List.mem_range.2 hi)
    simp only [Bool.and_eq_true, ho] at this
    have := List.all_eq_true.1 this.1 d hd
    simpa using this
  · have := h' i (List.mem_range.2 hi)
    simp only [Bool.and_eq_true] at this
    have := List.all_eq_true.1 this.2 a (List.mem_range.2 hai)
    rw [Bool.or_eq_true] at this
    rcases this with h1 | h1
    · left
      refine closL_dep ops.toList [] [] rfl rfl (fun i a ha => by simp at ha) i a ?_
      simpa using h1
    · exact .inr (indepB_spec h1)

theorem any_exec {ops : Array Oper} {base : Nat} {lgs : List Lg} (hcf : cfB ops lgs = true) {Q : Exit → Act → World → Prop} {T' : Nat → V} {R' : Rs} : ∀ (fuel : Nat) (listed : Array Bool) (L : List Nat) (S : Nat → Prop) (T : Nat → V) (R : Rs) (a : Act) (w : World),
    listed.size = ops.size → L.length ≤ fuel → (∀ i, i ∈ L ↔ listed[i]? = some false) → L.Pairwise (· < ·) → (∀ i, i ∈ L → ¬ S i) → (∀ (j : Nat) o, listed[j]? = some true → ops[j]? = some o → ∀ d, d ∈ depsOf o → listed[d]? = some true) →
    Inv E C0 base S T R a w → Chain E ops base (fun k => lgs.getD k ([], [])) L T R T' R' → (∀ S' a' w', Inv E C0 base S' T' R' a' w' → (∀ j, S' j → S j ∨ j ∈ L) → Q .normal a' w') → wpAny E.P .any ops Q fuel listed a w := by
  obtain ⟨hlow, hpair⟩ := cfB_spec hcf
  intro fuel
  -- the first of what is left is ready
  have firstReady : ∀ (listed : Array Bool) (i : Nat) (L : List Nat), listed.size = ops.size → (∀ k, k ∈ i :: L ↔ listed[k]? = some false) → (i :: L).Pairwise (· < ·) → i ∈ Region.ready .any ops listed := by
    intro listed i L hs hL hp
    have hi := (hL i).1 (by simp)
    have hlt : i < ops.size := by rw [← hs]; exact (Array.getElem?_eq_some_iff.1 hi).1
    rw [mem_ready]
    refine ⟨by simp [hi], ops[i], Array.getElem?_eq_getElem hlt, fun e he hb => ?_⟩
    have hd : e.on ∈ depsOf ops[i] := List.mem_filterMap.2 ⟨e, by simpa using he, by rw [if_pos hb]⟩
    have hdl := hlow i _ (Array.getElem?_eq_getElem hlt) e.on hd
    have hnot : e.on ∉ i :: L := by
      intro hm
      rcases List.mem_cons.1 hm with h1 | h1
      · omega
      · have := (List.pairwise_cons.1 hp).1 e.on h1; omega
    have hsz : e.on < listed.size := by omega
    have : listed[e.on]? ≠ some false := fun h => hnot ((hL e.on).2 h)
    rw [Array.getElem?_eq_getElem hsz] at this
    have h3 : listed[e.on] = true := by
      cases h4 : listed[e.on] with
      | true => rfl
      | false => exact absurd (by rw [h4]) this
    simp [hsz, h3]
  induction fuel with
  | zero =>
    intro listed L S T R a w hs hf hL hp hS hcl hI hC hq
    have hL0 : L = [] := List.eq_nil_of_length_eq_zero (by omega)
    subst hL0
    obtain ⟨rfl, rfl⟩ := hC
    refine ⟨?_, hq S a w hI fun j hj => .inl hj⟩
    cases hr : Region.ready .any ops listed with
    | nil => rfl
    | cons i r =>
      have : i ∈ Region.ready .any ops listed := by rw [hr]; simp
      rw [mem_ready] at this
      have h1 : listed[i]? = some false := by
        cases e : listed[i]? with
        | none => simp [e] at this
        | some b => simp [e] at this; rw [this.1]
      exact absurd ((hL i).2 h1) (by simp)
  | succ fuel ih =>
    intro listed L S T R a w hs hf hL hp hS hcl hI hC hq
    refine ⟨fun hr => ?_, fun i hi => ?_⟩
    · cases L with
      | nil =>
        obtain ⟨rfl, rfl⟩ := hC
        exact hq S a w hI fun j hj => .inl hj
      | cons i L =>
        have := firstReady listed i L hs hL hp
        rw [hr] at this
        cases this
    · rw [mem_ready] at hi
      obtain ⟨hi1, o, ho, hdep⟩ := hi
      have h1 : listed[i]? = some false := by
        cases e : listed[i]? with
        | none => simp [e] at hi1
        | some b => simp [e] at hi1; rw [hi1]
      obtain ⟨l1, l2, rfl⟩ := List.append_of_mem ((hL i).2 h1)
      have hlt : i < ops.size := (Array.getElem?_eq_some_iff.1 ho).1
      have hdeps : ∀ d, d ∈ depsOf o → listed[d]? = some true := by
        intro d hd
        obtain ⟨e, he, hb⟩ := List.mem_filterMap.1 hd
        split at hb
        · rename_i hb'
          cases hb
          have := hdep e (by simpa using he) hb'
          cases e2 : listed[e.on]? with
          | none => simp [e2] at this
          | some b => simp [e2] at this; rw [this]
        · cases hb
      have hclosed : ∀ x i', Dep ops.toList x i' → (listed[i']? = some true ∨ i' = i) → listed[x]? = some true := by
        intro x i' hd
        induction hd with
        | one h hd =>
          rintro (h2 | rfl)
          · exact hcl _ _ h2 (by simpa using h) _ hd
          · have : some o = some _ := ho.symm.trans (by simpa using h)
            cases this
            exact hdeps _ hd
        | more h hd k ih2 =>
          rintro (h2 | rfl)
          · exact ih2 (.inl (hcl _ _ h2 (by simpa using h) _ hd))
          · have : some o = some _ := ho.symm.trans (by simpa using h)
            cases this
            exact ih2 (.inl (hdeps _ hd))
      have hpl := List.pairwise_append.1 hp
      have hind : ∀ x, x ∈ l1 → Indep ops (fun k => lgs.getD k ([], [])) x i := by
        intro x hx
        have hxi : x < i := hpl.2.2 x hx i (by simp)
        rcases hpair x i hxi hlt with h2 | h2
        · have h3 := hclosed x i h2 (.inr rfl)
          have h4 := (hL x).1 (by simp [hx])
          rw [h3] at h4; cases h4
        · exact h2
      obtain ⟨T1, R1, s1, s2⟩ := Chain.first l1 l2 hC hind
      refine wpOp_mono (fun a' w' h' => ?_) (step_exec hI (hS i (by simp)) s1)
      have hset : ∀ k, (listed.setIfInBounds i true)[k]? = if i = k then some true else listed[k]? := by
        intro k
        rw [Array.getElem?_setIfInBounds]
        by_cases e : i = k
        · rw [if_pos e, if_pos e, if_pos (by omega)]
        · rw [if_neg e, if_neg e]
      have hni : i ∉ l1 ++ l2 := by
        intro hm
        rcases List.mem_append.1 hm with h | h
        · have := hpl.2.2 i h i (by simp); omega
        · have := (List.pairwise_cons.1 hpl.2.1).1 i h; omega
      refine ih (listed.setIfInBounds i true) (l1 ++ l2) _ T1 R1 a' w' (by simpa using hs) ?_ ?_ ?_ ?_ ?_ h' s2 ?_
      · simp only [List.length_append, List.length_cons] at hf ⊢; omega
      · intro k
        rw [hset]
        by_cases e : i = k
        · subst e
          rw [if_pos rfl]
          exact ⟨fun h => absurd h hni, fun h => by cases h⟩
        · rw [if_neg e, ← hL k]
          simp only [List.mem_append, List.mem_cons]
          constructor
          · rintro (h | h)
            · exact .inl h
            · exact .inr (.inr h)
          · rintro (h | h | h)
            · exact .inl h
            · exact absurd h.symm e
            · exact .inr h
      · rw [List.pairwise_append]
        exact ⟨hpl.1, (List.pairwise_cons.1 hpl.2.1).2, fun x hx y hy => hpl.2.2 x hx y (by simp [hy])⟩
      · rintro k hk (h | rfl)
        · refine hS k ?_ h
          rcases List.mem_append.1 hk with h | h <;> simp [h]
        · exact hni hk
      · intro j oj hj hoj d hd
        rw [hset] at hj ⊢
        by_cases e : i = d
        · rw [if_pos e]
        · rw [if_neg e]
          by_cases e2 : i = j
          · subst e2
            have : some o = some oj := ho.symm.trans hoj
            cases this
            exact hdeps d hd
          · rw [if_neg e2] at hj
            exact hcl j oj hj hoj d hd
      · intro S' a2 w2 hI2 hS2
        refine hq S' a2 w2 hI2 fun j hj => ?_
        rcases hS2 j hj with (h | h) | h
        · exact .inl h
        · exact .inr (by simp [h])
        · rcases List.mem_append.1 h with h | h <;> simp [h]
end Go.Ev
namespace Go.Ev
open Go Go.RowKit
variable {E : Env} {C0 : Cx}

def putT (T : List (Nat × V)) (d : Option Nat) (v : V) : List (Nat × V) :=
  match d with
  | some d => (d, v) :: T
  | none => T

def applyW : List (Nat × Root) → List (Nat × Option Root) → List (Nat × Root)
  | R, [] => R
  | R, (n, none) :: ws => applyW (dropR R n) ws
  | R, (n, some r) :: ws => applyW ((n, r) :: dropR R n) ws

theorem lookT_put (T : List (Nat × V)) (d : Option Nat) (v : V) : lookT (putT T d v) = putF (lookT T) d v := by
  cases d with
  | none => rfl
  | some d => funext t; simp only [putT, lookT, putF]

theorem lookR_drop (n : Nat) : ∀ (R : List (Nat × Root)) (m : Nat), lookR (dropR R n) m = if m = n then none else lookR R m
  | [], m => by simp [dropR, lookR]
  | (k, r) :: R, m => by
    simp only [dropR]
    by_cases e : k = n
    · rw [if_pos e, lookR_drop n R m]
      by_cases e2 : m = n
      · rw [if_pos e2, if_pos e2]
      · rw [if_neg e2, if_neg e2, lookR, if_neg (fun h => e2 (by omega))]
    · rw [if_neg e, lookR, lookR_drop n R m, lookR]
      by_cases e2 : k = m
      · rw [if_pos e2, if_pos e2, if_neg (fun h => e (by omega))]
      · rw [if_neg e2, if_neg e2]

theorem lookR_apply : ∀ (ws : List (Nat × Option Root)) (R : List (Nat × Root)), lookR (applyW R ws) = applyF (lookR R) ws
  | [], R => rfl
  | (n, none) :: ws, R => by
    rw [applyW, lookR_apply ws, applyF]
    congr 1
    funext m
    exact lookR_drop n R m
  | (n, some r) :: ws, R => by
    rw [applyW, lookR_apply ws, applyF]
    congr 1
    funext m
    rw [lookR, lookR_drop]
    by_cases e : n = m
    · rw [if_pos e, if_pos e.symm]
    · rw [if_neg e, if_neg (Ne.symm e), if_neg (Ne.symm e)]

/-- The operations of a region in their own order. -/
inductive Ch (E : Env) (ops : Array Oper) (base : Nat) : Nat → List Oper → List (Nat × V) → List (Nat × Root) → List (Nat × V) → List (Nat × Root) → List Lg → Prop
  | nil {i : Nat} {T R} : Ch E ops base i [] T R T R []
  | cons {i : Nat} {o : Oper} {l : List Oper} {T R T1 R1 T' R' lg v nm wr} (he : Eff E ops (base + 8 * i) o (lookT T) (lookR R) v nm wr) (hT : putT T o.dst v = T1) (hR : applyW R wr = R1) (hc : Ch E ops base (i + 1) l T1 R1 T' R' lg) :
      Ch E ops base i (o :: l) T R T' R' ((nm, wr) :: lg)

theorem Ch.chain {ops : Array Oper} {base : Nat} {lgs : List Lg} : ∀ (l : List Oper) (i : Nat) {T T' : List (Nat × V)} {R R' : List (Nat × Root)} {lg : List Lg}, ops.toList.drop i = l → lgs.drop i = lg → Ch E ops base i l T R T' R' lg →
    Chain E ops base (fun k => lgs.getD k ([], [])) (List.range' i l.length) (lookT T) (lookR R) (lookT T') (lookR R')
  | [], i, T, T', R, R', lg, _, _, h => by
    cases h with
    | nil => exact ⟨rfl, rfl⟩
  | o :: l, i, T, T', R, R', lg, hl, hg, h => by
    cases h with
    | cons he hT hR hc =>
      rename_i T1 R1 lg' v nm wr
      have ho : ops[i]? = some o := by
        have := congrArg (·[0]?) hl
        simpa using this
      have hgi : lgs.getD i ([], []) = (nm, wr) := by
        have := congrArg (·[0]?) hg
        simp only [List.getElem?_drop, Nat.add_zero, List.getElem?_cons_zero] at this
        rw [List.getD_eq_getElem?_getD, this]; rfl
      have h1 : ops.toList.drop (i + 1) = l := by
        rw [← List.drop_drop, hl]; rfl
      have h2 : lgs.drop (i + 1) = lg' := by
        rw [← List.drop_drop, hg]; rfl
      refine ⟨lookT T1, lookR R1, ⟨o, v, ho, ?_, ?_, ?_⟩, Ch.chain l (i + 1) h1 h2 hc⟩
      · dsimp only; rw [hgi]; exact he
      · rw [← hT, lookT_put]
      · dsimp only; rw [← hR, lookR_apply, hgi]

section rules
variable {K : Exit → St → Prop} {σ : St} {T T' : List (Nat × V)} {R R' : List (Nat × Root)} {b b' : Nat}

theorem inv_next {base n : Nat} {S : Nat → Prop} {T : Nat → V} {R : Rs} {a : Act} {w : World} (h : Inv E C0 base S T R a w) (hS : ∀ j, S j → j < n) : Inv E C0 (base + 8 * n) (fun _ => False) T R a w := by
  obtain ⟨C, h1, h2, h3, h4, h5, h6, h7, h8⟩ := h
  refine ⟨C, h1, h2, h3, h4, h5, h6, h7, fun k hk => ?_⟩
  left
  rcases h8 k hk with h9 | ⟨j, hj, h9, h10⟩
  · omega
  · have := hS j hj; omega

theorem ev_region {id : Nat} {ops : Array Oper} {d : Bool} {lgs : List Lg} (h : Ch E ops b 0 ops.toList T R T' R' lgs) (hd : d = true → cfB ops lgs = true) (hb : b + 8 * ops.size = b') (hk : K .normal ⟨T', R', b'⟩) : Ev E C0 (.region id ops d) K ⟨T, R, b⟩ := by
  intro a w hi
  have hc := Ch.chain (lgs := lgs) ops.toList 0 rfl rfl h
  rw [Array.length_toList] at hc
  cases d with
  | false =>
    refine wp_region ?_
    rw [List.range_eq_range']
    refine wpOps_chain (List.range' 0 ops.size) List.nodup_range' (fun _ _ h => h) hi hc (fun S' a' w' hI hS => ⟨_, hk, ?_⟩)
    subst hb
    refine inv_next hI fun j hj => ?_
    rcases hS j hj with h | h
    · exact h.elim
    · simp at h; exact h
  | true =>
    refine wp_region_any E.mo ?_
    obtain ⟨C, h1, h2, h3, h4, h5, h6, h7, h8⟩ := hi
    subst h1
    obtain ⟨q1, q2, q3⟩ := same_drew h2 { C.w with drawn := C.w.drawn + 1 } ⟨rfl, rfl, rfl, Nat.le_refl _⟩ rfl
    have hi' : Inv E C0 b (fun _ => False) (lookT T) (lookR R) a { C.w with drawn := C.w.drawn + 1 } := ⟨_, rfl, q1, h3, fun t ht => (h4 t ht).ext q2, h5, h6, h7.next q2 q3, h8⟩
    refine any_exec (hd rfl) ops.size (Array.replicate ops.size false) (List.range' 0 ops.size) (fun _ => False) _ _ a _ (by simp) (by simp) (fun i => ?_) List.pairwise_lt_range' (fun _ _ h => h) (fun j o hj => ?_) hi' hc (fun S' a' w' hI hS => ⟨_, hk, ?_⟩)
    · simp [Array.getElem?_replicate]
    · simp [Array.getElem?_replicate] at hj
    · subst hb
      refine inv_next hI fun j hj => ?_
      rcases hS j hj with h | h
      · exact h.elim
      · simp at h; exact h

variable {ops : Array Oper} {base i : Nat} {o : Oper} {l : List Oper} {lg : List Lg} {T1 : List (Nat × V)} {R1 : List (Nat × Root)} {v : V} {wr : List (Nat × Option Root)} {bi : Nat}

theorem want_none (hg : o.guard = none) {T : Nat → V} : WantOK E.nt ops o T true := by unfold WantOK; rw [hg]
theorem want_some {j d : Nat} {w t y : Bool} (hg : o.guard = some (j, w)) (hd : dstOf ops j = some d) (hn : d < E.nt) {T : Nat → V} (ht : T d = .val (.bool t)) (hy : y = (t == w)) : WantOK E.nt ops o T y := by
  unfold WantOK; rw [hg]; exact ⟨d, hd, hn, .inl ⟨t, ht, hy⟩⟩
theorem want_undef {j d : Nat} {w y : Bool} (hg : o.guard = some (j, w)) (hd : dstOf ops j = some d) (hn : d < E.nt) {T : Nat → V} (ht : T d = .val undef) (hy : y = false) : WantOK E.nt ops o T y := by
  unfold WantOK; rw [hg]; exact ⟨d, hd, hn, .inr ⟨ht, hy⟩⟩

theorem ch_act {c : Prop} (hw : WantOK E.nt ops o (lookT T) true) (hb : base + 8 * i = bi) (ha : act E.tab (lookO E.nt (lookT T)) (lookR R) bi o.op = some ⟨c, v, wr⟩) (hc : c) (hT : putT T o.dst v = T1) (hR : applyW R wr = R1)
    (hk : Ch E ops base (i + 1) l T1 R1 T' R' lg) : Ch E ops base i (o :: l) T R T' R' ((opNames (lookO E.nt (lookT T)) o.op, wr) :: lg) := by
  subst hb
  exact .cons (.inr (.inl ⟨hw, rfl, .inl ⟨_, ha, hc, rfl, rfl⟩⟩)) hT hR hk

theorem ch_skip (hw : WantOK E.nt ops o (lookT T) false) (hT : putT T o.dst (.val undef) = T1) (hk : Ch E ops base (i + 1) l T1 R T' R' lg) : Ch E ops base i (o :: l) T R T' R' (([], []) :: lg) :=
  .cons (.inl ⟨hw, rfl, rfl, rfl⟩) hT rfl hk

theorem ch_call {c : Call} {f : FuncId} {xs ys : List V} {gv : V} {rs : List Root} (hw : WantOK E.nt ops o (lookT T) true) (ho : o.op = .call c) (hb : base + 8 * i = bi) (hx : calleeOf (lookO E.nt (lookT T)) c = some (f, xs)) (hz : FrzA (lookR R) xs ys) (hG : Good E.P f ys gv rs) (hl : rs.length ≤ 8)
    (hv : shV bi gv = v) (hT : putT T o.dst v = T1) (hR : applyW R (newsL bi rs) = R1) (hk : Ch E ops base (i + 1) l T1 R1 T' R' lg) : Ch E ops base i (o :: l) T R T' R' ((opNames (lookO E.nt (lookT T)) o.op, newsL bi rs) :: lg) := by
  subst hb; subst hv
  exact .cons (.inr (.inl ⟨hw, rfl, .inr ⟨c, f, xs, ys, gv, rs, ho, hx, hz, hG, hl, rfl, rfl⟩⟩)) hT hR hk

theorem ch_callR {c : Call} {f : FuncId} {xs ys : List V} {gv : V} {rs : List Root} {rs' : List (Option Root)} (ns zs : List Nat) (hw : WantOK E.nt ops o (lookT T) true) (ho : o.op = .call c) (hb : base + 8 * i = bi) (hx : calleeOf (lookO E.nt (lookT T)) c = some (f, xs)) (hG : GoodR E.P f ys rs gv rs')
    (ha : ArgR (lookR R) ns zs xs ys) (hH : HandL (lookR R) ns ns.length ns rs) (hn : (ns.Nodup ∧ ∀ z, z ∈ zs → z ∉ ns) ∧ rs'.length - rs.length ≤ 8)
    (hv : rnV (upN ns bi) gv = v) (hT : putT T o.dst v = T1) (hR : applyW R (wrR ns zs bi rs') = R1) (hk : Ch E ops base (i + 1) l T1 R1 T' R' lg) : Ch E ops base i (o :: l) T R T' R' ((opNames (lookO E.nt (lookT T)) o.op ++ (ns ++ zs), wrR ns zs bi rs') :: lg) := by
  subst hb; subst hv
  exact .cons (.inr (.inr ⟨hw, c, f, xs, ys, gv, rs, rs', ns, zs, ho, hx, rfl, hG, hn.1.1, hH, hn.1.2, ha, hn.2, rfl, rfl⟩)) hT hR hk

/-- A region's operations from one on, and what is wanted behind them. -/
def Dr (E : Env) (ops : Array Oper) (base i : Nat) (l : List Oper) (K : List (Nat × V) → List (Nat × Root) → List Lg → Prop) (T : List (Nat × V)) (R : List (Nat × Root)) : Prop := ∃ T' R' lg, Ch E ops base i l T R T' R' lg ∧ K T' R' lg

variable {Kd : List (Nat × V) → List (Nat × Root) → List Lg → Prop}

theorem dr_nil (h : Kd T R []) : Dr E ops base i [] Kd T R := ⟨T, R, [], .nil, h⟩

theorem dr_act {c : Prop} (hw : WantOK E.nt ops o (lookT T) true) (hb : base + 8 * i = bi) (ha : act E.tab (lookO E.nt (lookT T)) (lookR R) bi o.op = some ⟨c, v, wr⟩) (hc : c) (hT : putT T o.dst v = T1) (hR : applyW R wr = R1)
    (hk : Dr E ops base (i + 1) l (fun T' R' lg => Kd T' R' ((opNames (lookO E.nt (lookT T)) o.op, wr) :: lg)) T1 R1) : Dr E ops base i (o :: l) Kd T R := by
  obtain ⟨T', R', lg, h1, h2⟩ := hk
  exact ⟨T', R', _, ch_act hw hb ha hc hT hR h1, h2⟩

theorem dr_skip (hw : WantOK E.nt ops o (lookT T) false) (hT : putT T o.dst (.val undef) = T1) (hk : Dr E ops base (i + 1) l (fun T' R' lg => Kd T' R' (([], []) :: lg)) T1 R) : Dr E ops base i (o :: l) Kd T R := by
  obtain ⟨T', R', lg, h1, h2⟩ := hk
  exact ⟨T', R', _, ch_skip hw hT h1, h2⟩

theorem dr_call {c : Call} {f : FuncId} {xs ys : List V} {gv : V} {rs : List Root} (hw : WantOK E.nt ops o (lookT T) true) (ho : o.op = .call c) (hb : base + 8 * i = bi) (hx : calleeOf (lookO E.nt (lookT T)) c = some (f, xs)) (hz : FrzA (lookR R) xs ys) (hG : Good E.P f ys gv rs) (hl : rs.length ≤ 8)
    (hv : shV bi gv = v) (hT : putT T o.dst v = T1) (hR : applyW R (newsL bi rs) = R1) (hk : Dr E ops base (i + 1) l (fun T' R' lg => Kd T' R' ((opNames (lookO E.nt (lookT T)) o.op, newsL bi rs) :: lg)) T1 R1) : Dr E ops base i (o :: l) Kd T R := by
  obtain ⟨T', R', lg, h1, h2⟩ := hk
  exact ⟨T', R', _, ch_call hw ho hb hx hz hG hl hv hT hR h1, h2⟩

/-- A call that gets roots: ns by reference, zs are frozen from then on. -/
theorem dr_callR {c : Call} {f : FuncId} {xs ys : List V} {gv : V} {rs : List Root} {rs' : List (Option Root)} (ns zs : List Nat) (hw : WantOK E.nt ops o (lookT T) true) (ho : o.op = .call c) (hb : base + 8 * i = bi) (hx : calleeOf (lookO E.nt (lookT T)) c = some (f, xs)) (hG : GoodR E.P f ys rs gv rs')
    (ha : ArgR (lookR R) ns zs xs ys) (hH : HandL (lookR R) ns ns.length ns rs) (hn : (ns.Nodup ∧ ∀ z, z ∈ zs → z ∉ ns) ∧ rs'.length - rs.length ≤ 8)
    (hv : rnV (upN ns bi) gv = v) (hT : putT T o.dst v = T1) (hR : applyW R (wrR ns zs bi rs') = R1) (hk : Dr E ops base (i + 1) l (fun T' R' lg => Kd T' R' ((opNames (lookO E.nt (lookT T)) o.op ++ (ns ++ zs), wrR ns zs bi rs') :: lg)) T1 R1) : Dr E ops base i (o :: l) Kd T R := by
  obtain ⟨T', R', lg, h1, h2⟩ := hk
  exact ⟨T', R', _, ch_callR ns zs hw ho hb hx hG ha hH hn hv hT hR h1, h2⟩

theorem frzA_same {R : Rs} : ∀ {xs : List V}, xs.all noN = true → FrzA R xs xs
  | [], _ => .nil
  | x :: xs, h => by
    simp only [List.all_cons, Bool.and_eq_true] at h
    exact .cons (.cell (.same h.1)) (frzA_same h.2)

theorem dr_callF {c : Call} {f : FuncId} {xs : List V} {gv : V} {rs : List Root} (hw : WantOK E.nt ops o (lookT T) true) (ho : o.op = .call c) (hb : base + 8 * i = bi) (hx : calleeOf (lookO E.nt (lookT T)) c = some (f, xs)) (hn : xs.all noN = true) (hG : Good E.P f xs gv rs) (hl : rs.length ≤ 8)
    (hv : shV bi gv = v) (hT : putT T o.dst v = T1) (hR : applyW R (newsL bi rs) = R1) (hk : Dr E ops base (i + 1) l (fun T' R' lg => Kd T' R' ((opNames (lookO E.nt (lookT T)) o.op, newsL bi rs) :: lg)) T1 R1) : Dr E ops base i (o :: l) Kd T R :=
  dr_call hw ho hb hx (frzA_same hn) hG hl hv hT hR hk

theorem getD_mapL {α β : Type} {f : α → β} {ys : List α} {i : Nat} (d : α) (e : β) (h : i < ys.length) : (ys.map f).getD i e = f (ys.getD i d) := by
  simp [List.getD_eq_getElem?_getD, h]

/-- An element's address in a frozen list. -/
theorem dr_ix {α : Type} {g : α → List V} {ys : List α} (d : α) {t : TypeId} {x ix : Operand} {sz : Nat} {kd : IntKind} {k : Int} (hw : WantOK E.nt ops o (lookT T) true) (ho : o.op = .indexAddr t x ix) (hb : base + 8 * i = bi) (hx : lookO E.nt (lookT T) x = .list sz (ys.map g)) (hi : lookO E.nt (lookT T) ix = .val (.int kd k))
    (hs : slT E.tab t ∧ sz = (E.tab (E.tab t).elem).sz) (h01 : 0 ≤ k ∧ k < ys.length) (hT : putT T o.dst (.ept (g (ys.getD k.toNat d)) 0) = T1)
    (hk : Dr E ops base (i + 1) l (fun T' R' lg => Kd T' R' ((opNames (lookO E.nt (lookT T)) o.op, []) :: lg)) T1 R) : Dr E ops base i (o :: l) Kd T R := by
  refine dr_act hw hb (c := slT E.tab t ∧ (sz = (E.tab (E.tab t).elem).sz ∧ 0 ≤ k ∧ k < (ys.map g).length)) (v := .ept ((ys.map g).getD k.toNat []) 0) (wr := []) (by rw [ho]; simp only [act, hx, hi, indexAddrV, grd, Option.map_some]) ⟨hs.1, hs.2, h01.1, by rw [List.length_map]; exact h01.2⟩ ?_ rfl hk
  rw [getD_mapL d [] (by omega)]
  exact hT

theorem ev_rf {id : Nat} (hb : b + 8 * ops.size = b') (h : Dr E ops b 0 ops.toList (fun T' R' _ => K .normal ⟨T', R', b'⟩) T R) : Ev E C0 (.region id ops false) K ⟨T, R, b⟩ := by
  obtain ⟨T', R', lg, h1, h2⟩ := h
  exact ev_region h1 (fun h => by cases h) hb h2

theorem ev_reg {id : Nat} {d : Bool} (hb : b + 8 * ops.size = b') (h : Dr E ops b 0 ops.toList (fun T' R' lg => (d = true → cfB ops lg = true) ∧ K .normal ⟨T', R', b'⟩) T R) : Ev E C0 (.region id ops d) K ⟨T, R, b⟩ := by
  obtain ⟨T', R', lg, h1, h2, h3⟩ := h
  exact ev_region h1 h2 hb h3
end rules
end Go.Ev
namespace Go.Ev
open Go Go.RowKit
variable {E : Env} {C0 : Cx}

/-- Names told by a list, others as they are. -/
def lookN : List (Nat × Nat) → Nat → Nat
  | [], n => n
  | (k, v) :: l, n => if k = n then v else lookN l n

def chkT (ρ : Nat → Nat) (bd : Nat) (f : Nat → V) : List (Nat × V) → Prop
  | [] => True
  | (k, v) :: l => (f k = rnV ρ v ∧ okV false bd v = true) ∧ chkT ρ bd f l

def chkR (ρ : Nat → Nat) (bd : Nat) (f : Rs) : List (Nat × Root) → Prop
  | [] => True
  | (n, r) :: l => (n < bd ∧ ∃ r0, f (ρ n) = some r0 ∧ r0.ty = r.ty ∧ r0.sz = r.sz ∧ r0.els = r.els.map (·.map (rnC ρ)) ∧ r.els.all (·.all (okC false bd)) = true) ∧ chkR ρ bd f l

theorem chkT_spec {ρ : Nat → Nat} {bd : Nat} {f : Nat → V} : ∀ {l : List (Nat × V)}, chkT ρ bd f l → ∀ t, lookT l t = .any ∨ (f t = rnV ρ (lookT l t) ∧ okV false bd (lookT l t) = true)
  | [], _, t => .inl rfl
  | (k, v) :: l, h, t => by
    simp only [lookT]
    by_cases e : k = t
    · rw [if_pos e]; subst e; exact .inr h.1
    · rw [if_neg e]; exact chkT_spec h.2 t

theorem chkR_spec {ρ : Nat → Nat} {bd : Nat} {f : Rs} : ∀ {l : List (Nat × Root)}, chkR ρ bd f l → ∀ n r, lookR l n = some r → n < bd ∧ ∃ r0, f (ρ n) = some r0 ∧ r0.ty = r.ty ∧ r0.sz = r.sz ∧ r0.els = r.els.map (·.map (rnC ρ)) ∧ r.els.all (·.all (okC false bd)) = true
  | [], _, n, r, h => by cases h
  | (k, q) :: l, h, n, r, hr => by
    simp only [lookR] at hr
    by_cases e : k = n
    · rw [if_pos e] at hr; cases hr; subst e; exact h.1
    · rw [if_neg e] at hr; exact chkR_spec h.2 n r hr

theorem lookR_mem : ∀ {l : List (Nat × Root)} {n : Nat} {r : Root}, lookR l n = some r → n ∈ l.map (·.1)
  | (k, q) :: l, n, r, h => by
    simp only [lookR] at h
    by_cases e : k = n
    · simp [e]
    · rw [if_neg e] at h
      simp only [List.map_cons, List.mem_cons]
      exact .inr (lookR_mem h)

theorem nodup_inj {ρ : Nat → Nat} : ∀ {l : List Nat}, (l.map ρ).Nodup → ∀ n m, n ∈ l → m ∈ l → ρ n = ρ m → n = m
  | k :: l, h, n, m, hn, hm, e => by
    rw [List.map_cons, List.nodup_cons] at h
    rcases List.mem_cons.1 hn with hn1 | hn1
    · rcases List.mem_cons.1 hm with hm1 | hm1
      · rw [hn1, hm1]
      · exact absurd (List.mem_map.2 ⟨m, hm1, by rw [← e, hn1]⟩) h.1
    · rcases List.mem_cons.1 hm with hm1 | hm1
      · exact absurd (List.mem_map.2 ⟨n, hn1, by rw [e, hm1]⟩) h.1
      · exact nodup_inj h.2 n m hn1 hm1 e

/-- Names from outside stay. -/
theorem kp_ren {C : Cx} {ρ : Nat → Nat} {R' : Rs} {bd k0 : Nat} {pu : Bool} {F' : Nat → Prop} (h : RenR C ρ R' bd pu) (hF : Kp k0 C0 C) (hb : k0 ≤ bd) (hn : ∀ n r, R' n = some r → n < k0 → ρ n = n) (hF' : ∀ b, C0.F b → F' b) : Ext C0 (renCx C ρ R' bd F') := by
  refine ⟨hF.ex.fr, hF', fun n hn => Nat.lt_of_lt_of_le (hF.lt n hn) hb, fun p hp sz xs' hx => ?_⟩
  have hx' : getP R' p = some (sz, xs') := hx
  obtain ⟨r, hr⟩ := getP_some hx'
  have e := hn _ r hr (hF.lt _ hp)
  obtain ⟨xs0, k1, k2, _⟩ := ren_getP h hx'
  rw [e] at k1
  obtain ⟨xs, h1, h2, h3, h4⟩ := hF.ex.pl p hp sz xs0 k1
  refine ⟨xs, h1, by omega, ?_, h4⟩
  show C.io (ρ p.1, p.2) = _
  rw [e]; exact h3

/-- A state that knows less, under other names. -/
theorem weak_ren (ρ : List (Nat × Nat)) {T T' : List (Nat × V)} {R R' : List (Nat × Root)} {b b' : Nat} (hT : chkT (lookN ρ) b' (lookT T) T') (hR : chkR (lookN ρ) b' (lookR R) R') (hn : (R'.map fun p => lookN ρ p.1).Nodup) (hk : (decide (E.k0 ≤ b') && R'.all fun p => decide (E.k0 ≤ p.1) || decide (lookN ρ p.1 = p.1)) = true) : Weak E C0 ⟨T, R, b⟩ ⟨T', R', b'⟩ := by
  rintro a w ⟨C, rfl, hC, hCR, hTs, hsz, hd, hF, hA⟩
  have hren : RenR C (lookN ρ) (lookR R') b' false := by
    intro n r hr
    rw [hCR]
    exact chkR_spec hR n r hr
  obtain ⟨S1, S2⟩ := ren_sat (F' := C.F) hC hren (fun n m r r' h1 h2 e => nodup_inj (l := R'.map (·.1)) (by simpa [List.map_map, Function.comp_def] using hn) n m (lookR_mem h1) (lookR_mem h2) e) ⟨fun _ h => h, fun _ => rfl⟩
  refine ⟨renCx C (lookN ρ) (lookR R') b' C.F, rfl, S1, rfl, fun t ht => ?h1, hsz, hd, ⟨⟨hF.fr.os, hF.fr.tape, hF.fr.output, hF.fr.size, hF.fr.block, fun k hk => hF.fr.own k (S2 k hk), hF.fr.F⟩, ?h2, hF.lt⟩, fun n hn => .inl hn⟩
  case h1 =>
    rcases chkT_spec hT t with h | ⟨h1, h2⟩
    · show VR _ _ (lookT T' t)
      rw [h]; exact .fro (.any _)
    · have := hTs t ht
      show VR _ _ (lookT T' t)
      have hv : VR C (a.tmps.getD t undef) (rnV (lookN ρ) (lookT T' t)) := by rw [← h1]; exact this
      exact ren_V hren ⟨fun _ h => h, fun _ => rfl⟩ hv h2
  case h2 =>
    rw [Bool.and_eq_true, decide_eq_true_eq] at hk
    exact kp_ren hren hF hk.1 (fun n r hr hlt => by
      obtain ⟨p, hp, rfl⟩ := List.mem_map.1 (lookR_mem hr)
      have := List.all_eq_true.1 hk.2 p hp
      simp only [Bool.or_eq_true, decide_eq_true_eq] at this
      omega) hF.ex.F

/-- A pure cell of a root. -/
def pcell : V → Bool
  | .any => true
  | .val _ => true
  | .row _ xs => xs.all (·.all fun c => match c with | .any => true | .val _ => true | _ => false)
  | _ => false

inductive ResL (E : Env) (T : Nat → V) (R : Rs) : List ResultVar → List V → Prop
  | nil : ResL E T R [] []
  | tmp {t : Nat} {u : V} {l us} (hn : t < E.nt) (h : T t = u) (k : ResL E T R l us) : ResL E T R (.tmp t :: l) (u :: us)
  | cell {a t : Nat} {u : V} {c : Prop} {wr} {l us} (hn : a < E.nt) (hs : (E.tab t).sz ≠ 0) (h : loadV (E.tab t) R (T a) = some ⟨c, u, wr⟩) (hc : c) (hp : ∃ p i j, T a = .ptr p i j) (k : ResL E T R l us) : ResL E T R (.cell a t :: l) (u :: us)

def oneOf : List V → V
  | [x] => x
  | xs => .tup xs

def RootsL (R : Rs) : List Nat → List Root → Prop
  | [], [] => True
  | n :: ns, r :: rs => (R n = some r ∧ r.els.all (·.all pcell) = true) ∧ RootsL R ns rs
  | _, _ => False

/-- The function ends with these results. -/
structure RetOK (E : Env) (res : List ResultVar) (σ : St) (v : V) (rs : List Root) : Prop where
  ex : ∃ (ns : List Nat) (us : List V), ResL E (lookT σ.T) (lookR σ.R) res us ∧ oneOf us = rnV (fun k => ns.getD k 0) v ∧ ns.Nodup ∧ RootsL (lookR σ.R) ns rs ∧ okV true rs.length v = true

def retK (E : Env) (res : List ResultVar) (v : V) (rs : List Root) (e : Exit) (σ : St) : Prop :=
  match e with
  | .ret | .normal => RetOK E res σ v rs
  | _ => False

theorem rootsL_spec {R : Rs} : ∀ {ns : List Nat} {rs : List Root}, RootsL R ns rs → ns.length = rs.length ∧ ∀ (k : Nat) r, rs[k]? = some r → ∃ n, ns[k]? = some n ∧ R n = some r ∧ r.els.all (·.all pcell) = true
  | [], [], _ => ⟨rfl, fun k r h => by simp at h⟩
  | n :: ns, r :: rs, h => by
    obtain ⟨k1, k2⟩ := rootsL_spec h.2
    refine ⟨by simp [k1], fun k q hq => ?_⟩
    cases k with
    | zero => simp only [List.getElem?_cons_zero, Option.some.injEq] at hq; subst hq; exact ⟨n, rfl, h.1⟩
    | succ k => exact k2 k q (by simpa using hq)
  | [], _ :: _, h => h.elim
  | _ :: _, [], h => h.elim

theorem pcell_ok {bd : Nat} {ρ : Nat → Nat} {c : V} (h : pcell c = true) : okC true bd c = true ∧ rnC ρ c = c ∧ noNR c = true := by
  cases c with
  | row s xs =>
    refine ⟨?_, rfl, ?_⟩
    · simp only [okC]
      simp only [pcell] at h
      refine List.all_eq_true.2 fun x hx => List.all_eq_true.2 fun c hc => ?_
      have := List.all_eq_true.1 (List.all_eq_true.1 h x hx) c hc
      cases c <;> simp_all
    · simp only [noNR]
      simp only [pcell] at h
      refine List.all_eq_true.2 fun x hx => List.all_eq_true.2 fun c hc => ?_
      have := List.all_eq_true.1 (List.all_eq_true.1 h x hx) c hc
      cases c <;> simp_all [noN0]
  | any => exact ⟨rfl, rfl, rfl⟩
  | val u => exact ⟨rfl, rfl, rfl⟩
  | _ => simp [pcell] at h

theorem resL_run {C : Cx} (hC : Sat C) {a : Act} (hsz : a.tmps.size = E.nt) {T : Nat → V} (hT : ∀ t, t < E.nt → VR C (a.tmps.getD t undef) (T t)) : ∀ {res : List ResultVar} {us : List V}, ResL E T C.R res us →
    ∃ vs : List Value, (res.mapM (m := Sem) fun | .tmp t => pure (a.tmps.getD t undef) | .cell x t => do loadVar t (← asAddr (a.tmps.getD x undef))).run E.P C.w = .ok vs C.w ∧ vs.length = us.length ∧ ∀ (i : Nat) v u, vs[i]? = some v → us[i]? = some u → VR C v u := by
  intro res us h
  induction h with
  | nil => exact ⟨[], by simp, rfl, fun i v u h => by simp at h⟩
  | tmp hn h k ih =>
    obtain ⟨vs, h1, h2, h3⟩ := ih
    rename_i t u l us
    refine ⟨a.tmps.getD t undef :: vs, ?_, by simp [h2], fun i v u' hv hu => ?_⟩
    · rw [List.mapM_cons]
      simp only [Sem.run_bind, Sem.run_pure, Result.andThen_ok, h1]
    · cases i with
      | zero =>
        simp only [List.getElem?_cons_zero, Option.some.injEq] at hv hu
        subst hv; subst hu; rw [← h]; exact hT t hn
      | succ i => exact h3 i v u' (by simpa using hv) (by simpa using hu)
  | cell hn hs h hc hp k ih =>
    obtain ⟨vs, h1, h2, h3⟩ := ih
    rename_i x t u c wr l us
    obtain ⟨p, i0, j0, hpe⟩ := hp
    have hv0 := hT x hn
    obtain ⟨v'', q1, q2, _⟩ := load_run (P := E.P) (E.ok t hs) hC hv0 h hc
    rw [hpe] at hv0
    obtain ⟨ad, e2, _⟩ := hv0.ptr_inv
    refine ⟨v'' :: vs, ?_, by simp [h2], fun i v u' hv hu => ?_⟩
    · rw [List.mapM_cons]
      dsimp only
      rw [e2] at q1 ⊢
      simp only [Instr.loadAt, Instr.sureAddr, Sem.run_bind, Sem.run_pure, Result.andThen_ok] at q1
      have ha : (asAddr (.pointer (some ad))).run E.P C.w = .ok ad C.w := rfl
      simp only [Sem.run_bind, ha, Sem.run_pure, Result.andThen_ok, q1, h1]
    · cases i with
      | zero =>
        simp only [List.getElem?_cons_zero, Option.some.injEq] at hv hu
        subst hv; subst hu; exact q2
      | succ i => exact h3 i v u' (by simpa using hv) (by simpa using hu)

theorem res_one {C : Cx} (hC : Sat C) {a : Act} (hsz : a.tmps.size = E.nt) {T : Nat → V} (hT : ∀ t, t < E.nt → VR C (a.tmps.getD t undef) (T t)) {fn : Func} {us : List V} (h : ResL E T C.R fn.results.toList us) :
    ∃ vf, (results fn a.tmps).run E.P C.w = .ok vf C.w ∧ VR C vf (oneOf us) := by
  obtain ⟨vs, r1, r2, r3⟩ := resL_run hC hsz hT h
  have hlen : vs.length = us.length := r2
  have hm : (fn.results.mapM (m := Sem) fun | .tmp t => pure (a.tmps.getD t undef) | .cell x t => do loadVar t (← asAddr (a.tmps.getD x undef))).run E.P C.w = .ok vs.toArray C.w := by
    rw [Array.mapM_eq_mapM_toList]
    simp only [Sem.run_map, r1, Result.andThen_ok]
  have hres : results fn a.tmps = (do
      let vs ← fn.results.mapM (m := Sem) fun | .tmp t => pure (a.tmps.getD t undef) | .cell x t => do loadVar t (← asAddr (a.tmps.getD x undef))
      pure (if h : vs.size = 1 then vs[0] else .tuple vs)) := rfl
  rw [hres]
  cases us with
  | nil =>
    have : vs = [] := List.eq_nil_of_length_eq_zero (by simpa using hlen)
    subst this
    exact ⟨.tuple #[], by simp only [Sem.run_bind, hm, Result.andThen_ok]; rfl, .tup rfl (fun i v c h => by simp at h)⟩
  | cons u us =>
    cases us with
    | nil =>
      obtain ⟨v0, rfl⟩ : ∃ v0, vs = [v0] := by
        cases vs with
        | nil => simp at hlen
        | cons v0 r => cases r with
          | nil => exact ⟨v0, rfl⟩
          | cons => simp at hlen
      exact ⟨v0, by simp only [Sem.run_bind, hm, Result.andThen_ok]; rfl, r3 0 v0 u rfl rfl⟩
    | cons u2 us =>
      refine ⟨.tuple vs.toArray, ?_, .tup (by simpa using hlen) (fun i v c h1 h2 => r3 i v c (by simpa using h1) h2)⟩
      simp only [Sem.run_bind, hm, Result.andThen_ok]
      rw [dif_neg (by simp only [List.size_toArray, hlen, List.length_cons]; omega)]
      rfl

def argT : Nat → List V → List (Nat × V)
  | _, [] => []
  | n, x :: xs => (n, x) :: argT (n + 1) xs

theorem argT_look : ∀ (xs : List V) (n t : Nat), lookT (argT n xs) t = if n ≤ t then (xs[t - n]?).getD .any else .any
  | [], n, t => by simp [argT, lookT]
  | x :: xs, n, t => by
    simp only [argT, lookT]
    by_cases e : n = t
    · subst e; simp
    · rw [if_neg e, argT_look xs (n + 1) t]
      by_cases h : n + 1 ≤ t
      · rw [if_pos h, if_pos (by omega)]
        have : t - n = (t - (n + 1)) + 1 := by omega
        rw [this, List.getElem?_cons_succ]
      · rw [if_neg h, if_neg (by omega)]

/-- A function's contract, out of its code. -/
theorem good_of {f : FuncId} {fn : Func} {c : Code} {args : List V} {v : V} {rs : List Root} (hf : E.P.funcs[f]? = some fn) (hname : (fn.name == "runtime.NumGoroutine") = false) (hbody : fn.body = some c) (hnt : E.nt = fn.ntmps) (hla : args.length ≤ fn.ntmps)
    (h : ∀ C0, Ev E C0 c (retK E fn.results.toList v rs) ⟨argT 0 args, [], 0⟩) : Good E.P f args v rs := by
  refine ⟨⟨fn, hf, hname, by rw [hbody]; rfl⟩, fun w F vals hF hl hv => ?_⟩
  let C0 : Cx := { w := w, F := F, io := fun _ => none, R := fun _ => none, A := fun _ => False }
  have hact : ∀ p, ¬ Act? C0 p := fun p hp => by
    obtain ⟨x, e⟩ := Option.isSome_iff_exists.1 hp
    simp [C0, getP] at e
  have S0 : Sat C0 := ⟨fun p sz xs hp => absurd (by unfold Act?; rw [hp]; rfl) (hact p), fun p q g hp => absurd hp (hact p), fun p g hp => absurd hp (hact p), hF, fun n r hr => by cases hr⟩
  have own0 : ∀ k, ¬ Owned C0 k := by rintro k ⟨p, hp, _⟩; exact hact p hp
  refine calls_of_wp (fn := fn) (c := c) hf hbody ?_
  have hinv : InvS E C0 ⟨argT 0 args, [], 0⟩ { tmps := vals ++ Array.replicate (fn.ntmps - vals.size) undef, defers := [] } w := by
    refine ⟨C0, rfl, S0, by funext n; rfl, fun t ht => ?_, by simp; omega, rfl, ⟨.refl C0, .refl, fun n hn => hn.elim⟩, fun n hn => hn.elim⟩
    rw [argT_look, if_pos (Nat.zero_le _), Nat.sub_zero]
    by_cases hta : t < args.length
    · have e1 : args[t]? = some args[t] := List.getElem?_eq_getElem hta
      have e2 : vals[t]? = some (vals[t]'(by omega)) := Array.getElem?_eq_getElem _
      have e3 : (vals ++ Array.replicate (fn.ntmps - vals.size) undef).getD t undef = vals[t]'(by omega) := by
        rw [Array.getD_eq_getD_getElem?, Array.getElem?_append_left (by omega), e2]; rfl
      rw [e1, e3]
      exact .fro (hv t _ _ e2 e1)
    · have e1 : args[t]? = none := List.getElem?_eq_none (by omega)
      rw [e1]
      exact .fro (.any _)
  refine wp_mono (h C0 _ _ hinv) ?_
  rintro e a' w' ⟨σ', hk, C, rfl, hC, hCR, hTs, hsz, hd, hFr, hA⟩
  have fin : RetOK E fn.results.toList σ' v rs → ∃ v', (results fn a'.tmps).run E.P C.w = .ok v' C.w ∧ ∃ v'' C', Ending.returned v' = .returned v'' ∧ C'.w = C.w ∧ Sat C' ∧ (C'.R = fun n => rs[n]?) ∧ VR C' v'' v ∧ Below w.heap.size w C.w ∧ (∀ k, C'.F k → w.heap.size ≤ k) ∧ (∀ k, Owned C' k → w.heap.size ≤ k) ∧
      (∀ k, C'.A k → k < rs.length) ∧ ∀ r, r ∈ rs → r.els.all (·.all noNR) = true := by
    rintro ⟨ns, us, k1, k2, k3, k4, k5⟩
    rw [← hCR] at k1 k4
    obtain ⟨q1, q2⟩ := rootsL_spec k4
    have hren : RenR C (fun k => ns.getD k 0) (fun n => rs[n]?) rs.length true := by
      intro n r hr
      obtain ⟨m, m1, m2, m3⟩ := q2 n r hr
      have m4 : ns.getD n 0 = m := by rw [List.getD_eq_getElem?_getD, m1]; rfl
      refine ⟨(List.getElem?_eq_some_iff.1 hr).1, r, by dsimp only; rw [m4]; exact m2, rfl, rfl, ?_, ?_⟩
      · have : r.els.map (·.map (rnC fun k => ns.getD k 0)) = r.els.map id := List.map_congr_left fun x hx => by
          have : x.map (rnC fun k => ns.getD k 0) = x.map id := List.map_congr_left fun c hc => (pcell_ok (bd := 0) (List.all_eq_true.1 (List.all_eq_true.1 m3 x hx) c hc)).2.1
          rw [this]; simp
        rw [this]; simp
      · exact List.all_eq_true.2 fun x hx => List.all_eq_true.2 fun c hc => (pcell_ok (ρ := id) (List.all_eq_true.1 (List.all_eq_true.1 m3 x hx) c hc)).1
    have hF' : (∀ b, (fun k => C.F k ∧ w.heap.size ≤ k) b → C.F b) ∧ (true = false → (fun k => C.F k ∧ w.heap.size ≤ k) = C.F) := ⟨fun _ h => h.1, fun h => by cases h⟩
    have hinj : ∀ n m r r', (fun n => rs[n]?) n = some r → (fun n => rs[n]?) m = some r' → (fun k => ns.getD k 0) n = (fun k => ns.getD k 0) m → n = m := by
      intro n m r r' h1 h2 e
      obtain ⟨a, a1, _⟩ := q2 n r h1
      obtain ⟨b, b1, _⟩ := q2 m r' h2
      have e1 : ns.getD n 0 = a := by rw [List.getD_eq_getElem?_getD, a1]; rfl
      have e2 : ns.getD m 0 = b := by rw [List.getD_eq_getElem?_getD, b1]; rfl
      simp only [e1, e2] at e
      subst e
      obtain ⟨l1, g1⟩ := List.getElem?_eq_some_iff.1 a1
      obtain ⟨l2, g2⟩ := List.getElem?_eq_some_iff.1 b1
      exact (List.getElem_inj k3).1 (g1.trans g2.symm)
    obtain ⟨S1, S2⟩ := ren_sat hC hren hinj hF'
    obtain ⟨vf, hv1, hv2⟩ := res_one hC hsz hTs k1
    rw [k2] at hv2
    refine ⟨vf, hv1, vf, renCx C (fun k => ns.getD k 0) (fun n => rs[n]?) rs.length (fun k => C.F k ∧ w.heap.size ≤ k), rfl, rfl, S1, rfl, ren_V hren hF' hv2 k5, ⟨hFr.fr.os, hFr.fr.tape, hFr.fr.output, hFr.fr.size, fun k hk => hFr.fr.block k hk (own0 k)⟩, fun k hk => hk.2, fun k hk => ?_, fun k hk => hk, fun r hr => ?_⟩
    · rcases hFr.fr.own k (S2 k hk) with h1 | h1
      · exact absurd h1 (own0 k)
      · exact h1
    · obtain ⟨k, hk⟩ := List.getElem?_of_mem hr
      obtain ⟨m, m1, m2, m3⟩ := q2 k r hk
      exact List.all_eq_true.2 fun x hx => List.all_eq_true.2 fun c hc => (pcell_ok (bd := 0) (ρ := id) (List.all_eq_true.1 (List.all_eq_true.1 m3 x hx) c hc)).2.2
  cases e with
  | normal =>
    obtain ⟨v', h1, v'', C', h2⟩ := fin hk
    exact ⟨hd, v', h1, v'', C', h2⟩
  | ret =>
    obtain ⟨v', h1, v'', C', h2⟩ := fin hk
    exact ⟨hd, v', h1, v'', C', h2⟩
  | _ => exact hk.elim
end Go.Ev
namespace Go.Ev
open Go Go.RowKit
variable {E : Env} {C0 : Cx}

/-- The caller's names for the names at the end: those from outside stay. -/
def dnN (k0 : Nat) (ns : List Nat) (i : Nat) : Nat := if i < k0 then i else ns.getD (i - k0) 0

def RootsR (R : Rs) (ρ : Nat → Nat) : Nat → List (Option Root) → Prop
  | _, [] => True
  | i, none :: l => RootsR R ρ (i + 1) l
  | i, some r :: l => (∃ r0, R (ρ i) = some r0 ∧ r0.ty = r.ty ∧ r0.sz = r.sz ∧ r0.els = r.els.map (·.map (rnC ρ))) ∧ RootsR R ρ (i + 1) l

theorem rootsR_spec {R : Rs} {ρ : Nat → Nat} : ∀ {l : List (Option Root)} {i : Nat}, RootsR R ρ i l → ∀ k r, l.getD k none = some r → k < l.length ∧ ∃ r0, R (ρ (i + k)) = some r0 ∧ r0.ty = r.ty ∧ r0.sz = r.sz ∧ r0.els = r.els.map (·.map (rnC ρ))
  | [], i, _, k, r, h => by simp at h
  | none :: l, i, hR, k, r, h => by
    cases k with
    | zero => simp at h
    | succ k =>
      obtain ⟨k1, k2⟩ := rootsR_spec (l := l) hR k r (by simpa using h)
      exact ⟨by simpa using k1, by rw [show i + (k + 1) = i + 1 + k by omega]; exact k2⟩
  | some q :: l, i, hR, k, r, h => by
    cases k with
    | zero => simp at h; subst h; exact ⟨by simp, hR.1⟩
    | succ k =>
      obtain ⟨k1, k2⟩ := rootsR_spec (l := l) hR.2 k r (by simpa using h)
      exact ⟨by simpa using k1, by rw [show i + (k + 1) = i + 1 + k by omega]; exact k2⟩

/-- The function ends with these results, the roots from outside so. -/
def RetR (E : Env) (res : List ResultVar) (σ : St) (v : V) (rs' : List (Option Root)) : Prop :=
  ∃ (ns : List Nat) (us : List V), ResL E (lookT σ.T) (lookR σ.R) res us ∧ oneOf us = rnV (dnN E.k0 ns) v ∧ ns.Nodup ∧ (ns.all fun n => decide (E.k0 ≤ n)) = true ∧ E.k0 + ns.length = rs'.length ∧ RootsR (lookR σ.R) (dnN E.k0 ns) 0 rs'

def retKR (E : Env) (res : List ResultVar) (v : V) (rs' : List (Option Root)) (e : Exit) (σ : St) : Prop :=
  match e with
  | .ret | .normal => RetR E res σ v rs'
  | _ => False

def rsT : Nat → List Root → List (Nat × Root)
  | _, [] => []
  | n, r :: rs => (n, r) :: rsT (n + 1) rs

theorem rsT_look : ∀ (rs : List Root) (n t : Nat), lookR (rsT n rs) t = if n ≤ t then rs[t - n]? else none
  | [], n, t => by simp [rsT, lookR]
  | r :: rs, n, t => by
    simp only [rsT, lookR]
    by_cases e : n = t
    · subst e; simp
    · rw [if_neg e, rsT_look rs (n + 1) t]
      by_cases h : n + 1 ≤ t
      · rw [if_pos h, if_pos (by omega)]
        have : t - n = (t - (n + 1)) + 1 := by omega
        rw [this, List.getElem?_cons_succ]
      · rw [if_neg h, if_neg (by omega)]

def okRs (bd : Nat) : List (Option Root) → Prop
  | [] => True
  | none :: l => okRs bd l
  | some r :: l => r.els.all (·.all (okC false bd)) = true ∧ okRs bd l

theorem okRs_spec {bd : Nat} : ∀ {l : List (Option Root)}, okRs bd l → ∀ i r, l.getD i none = some r → r.els.all (·.all (okC false bd)) = true
  | [], _, i, r, h => by simp at h
  | none :: l, hl, i, r, h => by
    cases i with
    | zero => simp at h
    | succ i => exact okRs_spec (l := l) hl i r (by simpa using h)
  | some q :: l, hl, i, r, h => by
    cases i with
    | zero => simp at h; subst h; exact hl.1
    | succ i => exact okRs_spec hl.2 i r (by simpa using h)

/-- A contract by reference, out of the code. -/
theorem goodR_of {f : FuncId} {fn : Func} {c : Code} {args : List V} {v : V} {rs : List Root} {rs' : List (Option Root)} (hf : E.P.funcs[f]? = some fn) (hname : (fn.name == "runtime.NumGoroutine") = false) (hbody : fn.body = some c) (hnt : E.nt = fn.ntmps) (hla : args.length ≤ fn.ntmps)
    (hk : E.k0 = rs.length ∧ rs.length ≤ rs'.length) (ok1 : okV false rs'.length v = true) (ok2 : okRs rs'.length rs')
    (h : ∀ C0, Ev E C0 c (retKR E fn.results.toList v rs') ⟨argT 0 args, rsT 0 rs, rs.length⟩) : GoodR E.P f args rs v rs' := by
  refine ⟨⟨fn, hf, hname, by rw [hbody]; rfl⟩, hk.2, ok1, okRs_spec ok2, fun C0 vals S0 hR0 hA0 hl hv => ?_⟩
  refine calls_of_wp (fn := fn) (c := c) hf hbody ?_
  have hinv : InvS E C0 ⟨argT 0 args, rsT 0 rs, rs.length⟩ { tmps := vals ++ Array.replicate (fn.ntmps - vals.size) undef, defers := [] } C0.w := by
    refine ⟨C0, rfl, S0, ?_, fun t ht => ?_, by simp; omega, rfl, ⟨.refl C0, .refl, fun n hn => by rw [hk.1]; exact hA0 n hn⟩, fun n hn => .inl (hA0 n hn)⟩
    · rw [hR0]; funext n; rw [rsT_look, if_pos (Nat.zero_le _), Nat.sub_zero]
    rw [argT_look, if_pos (Nat.zero_le _), Nat.sub_zero]
    by_cases hta : t < args.length
    · have e1 : args[t]? = some args[t] := List.getElem?_eq_getElem hta
      have e2 : vals[t]? = some (vals[t]'(by omega)) := Array.getElem?_eq_getElem _
      have e3 : (vals ++ Array.replicate (fn.ntmps - vals.size) undef).getD t undef = vals[t]'(by omega) := by
        rw [Array.getD_eq_getD_getElem?, Array.getElem?_append_left (by omega), e2]; rfl
      rw [e1, e3]
      exact hv t _ _ e2 e1
    · have e1 : args[t]? = none := List.getElem?_eq_none (by omega)
      rw [e1]
      exact .fro (.any _)
  refine wp_mono (h C0 _ _ hinv) ?_
  rintro e a' w' ⟨σ', hq, C, rfl, hC, hCR, hTs, hsz, hd, hKp, hA⟩
  have fin : RetR E fn.results.toList σ' v rs' → ∃ v', (results fn a'.tmps).run E.P C.w = .ok v' C.w ∧ ∃ v'' C', Ending.returned v' = .returned v'' ∧ C'.w = C.w ∧ Sat C' ∧ Ext C0 C' ∧ Fr C0 C' ∧ (C'.R = fun n => rs'.getD n none) ∧ VR C' v'' v ∧ ∀ n, C'.A n → n < rs'.length := by
    rintro ⟨ns, us, k1, k2, k3, k4, k5, k6⟩
    rw [← hCR] at k1 k6
    obtain ⟨vf, hv1, hv2⟩ := res_one hC hsz hTs k1
    have q := rootsR_spec k6
    have hren : RenR C (dnN E.k0 ns) (fun n => rs'.getD n none) rs'.length false := by
      intro n r hr
      obtain ⟨h1, r0, h2, h3, h4, h5⟩ := q n r hr
      rw [Nat.zero_add] at h2
      exact ⟨h1, r0, h2, h3, h4, h5, okRs_spec ok2 n r hr⟩
    have hns : ∀ i, i < ns.length → E.k0 ≤ ns.getD i 0 := by
      intro i hi
      have := List.all_eq_true.1 k4 (ns.getD i 0) (by rw [List.getD_eq_getElem?_getD, List.getElem?_eq_getElem hi]; exact List.getElem_mem hi)
      simpa using this
    have hinj : ∀ n m r r', (fun n => rs'.getD n none) n = some r → (fun n => rs'.getD n none) m = some r' → dnN E.k0 ns n = dnN E.k0 ns m → n = m := by
      intro n m r r' h1 h2 e
      have l1 := (q n r h1).1
      have l2 := (q m r' h2).1
      simp only [dnN] at e
      by_cases c1 : n < E.k0
      · rw [if_pos c1] at e
        by_cases c2 : m < E.k0
        · rw [if_pos c2] at e; exact e
        · rw [if_neg c2] at e
          have := hns (m - E.k0) (by omega); omega
      · rw [if_neg c1] at e
        by_cases c2 : m < E.k0
        · rw [if_pos c2] at e
          have := hns (n - E.k0) (by omega); omega
        · rw [if_neg c2] at e
          rw [List.getD_eq_getElem?_getD, List.getD_eq_getElem?_getD, List.getElem?_eq_getElem (by omega), List.getElem?_eq_getElem (by omega)] at e
          have := (List.getElem_inj k3).1 e
          omega
    obtain ⟨S1, S2⟩ := ren_sat (F' := C.F) hC hren hinj ⟨fun _ h => h, fun _ => rfl⟩
    have hx := kp_ren (F' := C.F) hren hKp (by rw [hk.1]; exact hk.2) (fun n r _ hn => by simp only [dnN]; rw [if_pos hn]) hKp.ex.F
    rw [k2] at hv2
    refine ⟨vf, hv1, vf, renCx C (dnN E.k0 ns) (fun n => rs'.getD n none) rs'.length C.F, rfl, rfl, S1, hx, ⟨hKp.fr.os, hKp.fr.tape, hKp.fr.output, hKp.fr.size, hKp.fr.block, fun k hk => hKp.fr.own k (S2 k hk), hKp.fr.F⟩, rfl, ren_V hren ⟨fun _ h => h, fun _ => rfl⟩ hv2 ok1, fun n hn => hn⟩
  cases e with
  | normal =>
    obtain ⟨v', h1, v'', C', h2⟩ := fin hq
    exact ⟨hd, v', h1, v'', C', h2⟩
  | ret =>
    obtain ⟨v', h1, v'', C', h2⟩ := fin hq
    exact ⟨hd, v', h1, v'', C', h2⟩
  | _ => exact hq.elim
end Go.Ev
