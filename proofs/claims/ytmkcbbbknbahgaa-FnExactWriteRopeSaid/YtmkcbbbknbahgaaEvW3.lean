/- Part 3 of the proof: the evaluator and the contracts of functions. -/
import Derived.Below
import Derived.KernelRfl
import Derived.Laws.AppendOwn
import Derived.Laws.CopyRow
import Derived.Laws.Entries
import Derived.Laws.IdiomCopy
import Derived.Laws.MakeOwn
import Derived.Laws.OwnMore
import Derived.Orders
import Derived.Test.YtmkcbbbknbahgaaProg
import Derived.Test.YtmkcbbbknbahgaaEvW2
set_option linter.unusedVariables false
set_option linter.unusedSimpArgs false
namespace Go.Ev
open Go Go.RowKit
variable {E : Env} {C0 C : Cx}

/-- A root taken into a cell of another as its row: under a new name. -/
def absR (r q : Root) (i j : Nat) : Root := { r with els := r.els.set i ((r.els.getD i []).set j (.row q.sz q.els)) }
def absPl (C : Cx) (n m i j : Nat) (s : Option (Nat × Nat)) : Option Nat := if s = some (i, j) then C.io (m, none) else C.io (n, s)

theorem abs_cell {r q : Root} {i j a : Nat} {x y : List V} (hx : r.els[i]? = some x) {c : Nat} {d : V} (h1 : (absR r q i j).els[a]? = some y) (h2 : y[c]? = some d) :
    (a = i ∧ c = j ∧ d = .row q.sz q.els ∧ c < x.length) ∨ (¬ (a = i ∧ c = j) ∧ ∃ z, r.els[a]? = some z ∧ z[c]? = some d) := by
  simp only [absR, getD_of_get hx] at h1
  rcases set_get h1 with ⟨rfl, rfl⟩ | ⟨e, h1⟩
  · rcases set_get h2 with ⟨rfl, rfl⟩ | ⟨e, h2⟩
    · have := (List.getElem?_eq_some_iff.1 h2).1
      rw [List.length_set] at this
      exact .inl ⟨rfl, rfl, rfl, this⟩
    · exact .inr ⟨fun h => e h.2, _, hx, h2⟩
  · exact .inr ⟨fun h => e h.1, _, h1, h2⟩

theorem abs_ok (hC : Sat C) {n m i j k b : Nat} {r q : Root} {x : List V} (hn : C.R n = some r) (hm : C.R m = some q) (hne : n ≠ m) (hx : r.els[i]? = some x) (hj : x[j]? = some (.ref (m, none) 0 k)) (hk : k = q.els.length) (hq : q.els.all (·.all noN0) = true) (hb : ¬ C.A b) :
    ∃ C', C'.w = C.w ∧ Sat C' ∧ Ext C C' ∧ Fr C C' ∧ C'.F = C.F ∧ (C'.R = fun y => if y = b then some (absR r q i j) else if y ∈ [n, m] then none else C.R y) ∧ (∀ y, C'.A y → C.A y ∨ y = b) ∧
      (∀ v off len, VR C v (.ref (n, none) off len) → VR C' v (.ref (b, none) off len)) ∧ ∀ v a c, VR C v (.ptr (n, none) a c) → VR C' v (.ptr (b, none) a c) := by
  let pl := absPl C n m i j
  let C' := mkCx C C.w [n, m] b (absR r q i j) pl
  have hRb : C'.R b = some (absR r q i j) := if_pos rfl
  have hio : ∀ s, C'.io (b, s) = pl s := fun s => if_pos rfl
  have an : ∀ s, (getP C.R (n, s)).isSome → Act? C (n, s) := fun s h => h
  have gn : getP C.R (n, none) = some (r.sz, r.els) := act_of hn
  have gm : getP C.R (m, none) = some (q.sz, q.els) := act_of hm
  have noij : getP C.R (n, some (i, j)) = none := by
    simp only [getP, hn, getD_of_get hx, getD_of_get hj]
  have hlen : (absR r q i j).els.length = r.els.length := by simp [absR]
  -- the new places
  have new : ∀ s sz xs, getP C'.R (b, s) = some (sz, xs) → (s = some (i, j) ∧ sz = q.sz ∧ xs = q.els) ∨ (s ≠ some (i, j) ∧ ∃ ys, getP C.R (n, s) = some (sz, ys) ∧ ys.length = xs.length ∧ (s ≠ none → ys = xs)) := by
    intro s sz xs h
    cases s with
    | none =>
      rw [act_of hRb] at h
      simp only [Option.some.injEq, Prod.mk.injEq] at h
      obtain ⟨rfl, rfl⟩ := h
      exact .inr ⟨by simp, r.els, gn, hlen.symm, fun h => absurd rfl h⟩
    | some ac =>
      obtain ⟨a, c⟩ := ac
      obtain ⟨y, h1, h2⟩ := getP_row hRb h
      rcases abs_cell hx h1 h2 with ⟨rfl, rfl, e, _⟩ | ⟨hne', z, e1, e2⟩
      · simp only [V.row.injEq] at e
        exact .inl ⟨rfl, e.1, e.2⟩
      · exact .inr ⟨fun e => by simp only [Option.some.injEq, Prod.mk.injEq] at e; exact hne' e, xs, getP_cell hn e1 e2, rfl, fun _ => rfl⟩
  have src : ∀ s, Act? C' (b, s) → ∃ p : Pl, Act? C p ∧ (p.1 ∈ [n, m]) ∧ pl s = C.io p ∧ (if s = some (i, j) then p = (m, none) else p = (n, s)) := by
    intro s h
    obtain ⟨⟨sz, xs⟩, e⟩ := Option.isSome_iff_exists.1 h
    rcases new s sz xs e with ⟨rfl, _, _⟩ | ⟨hs, ys, h1, _⟩
    · exact ⟨(m, none), by unfold Act?; rw [gm]; rfl, by simp, if_pos rfl, by rw [if_pos rfl]⟩
    · exact ⟨(n, s), by unfold Act?; rw [h1]; rfl, by simp, if_neg hs, by rw [if_neg hs]⟩
  have slx : ∀ s off len a cap, s ≠ some (i, j) → (∀ sz xs, getP C.R (n, s) = some (sz, xs) → SlAt C (n, s) sz xs a off len cap) → ∀ sz xs, getP C'.R (b, s) = some (sz, xs) → SlAt C' (b, s) sz xs a off len cap := by
    intro s off len a cap hs h sz xs hg
    rcases new s sz xs hg with ⟨e, _⟩ | ⟨_, ys, h1, h2, _⟩
    · exact absurd e hs
    · obtain ⟨o1, o2, o3, o4, o5⟩ := h sz ys h1
      have e : C'.io (b, s) = C.io (n, s) := (hio s).trans (if_neg hs)
      exact ⟨by omega, o2, o3, fun h => o4 (e ▸ h), fun g hg => o5 g (e ▸ hg)⟩
  obtain ⟨S1, S2, S3⟩ := mk_sat (D := [n, m]) (r := absR r q i j) (pl := pl) hC hb ⟨rfl, rfl, rfl, Nat.le_refl _⟩ (fun _ _ _ => rfl)
    (fun he s sz xs hg => by
      rcases new s sz xs hg with ⟨rfl, rfl, rfl⟩ | ⟨hs, ys, h1, h2, h3⟩
      · obtain ⟨k1, k2, k3⟩ := hC.pl _ _ _ gm
        have e : C'.io (b, some (i, j)) = C.io (m, none) := (hio _).trans (if_pos rfl)
        refine ⟨k1, fun h => k2 (e ▸ h), fun g hgi => ?_⟩
        obtain ⟨cs, ty, m1, m2, m3, m4⟩ := k3 g (e ▸ hgi)
        refine ⟨cs, ty, m1, fun h => by simp at h, m3, fun a y c d h1 h2 => ?_⟩
        obtain ⟨v, n1, n2, n3⟩ := m4 a y c d h1 h2
        have hd := List.all_eq_true.1 (List.all_eq_true.1 hq y (List.mem_of_getElem? h1)) d (List.mem_of_getElem? h2)
        refine ⟨v, n1, n2, ?_⟩
        cases d <;> first | exact VR.ext he n3 | simp [noN0] at hd
      · obtain ⟨k1, k2, k3⟩ := hC.pl _ _ _ h1
        have e : C'.io (b, s) = C.io (n, s) := (hio s).trans (if_neg hs)
        cases s with
        | some ac =>
          obtain rfl := h3 (by simp)
          refine ⟨k1, fun h => k2 (e ▸ h), fun g hgi => ?_⟩
          obtain ⟨cs, ty, m1, m2, m3, m4⟩ := k3 g (e ▸ hgi)
          refine ⟨cs, ty, m1, fun h => by simp at h, m3, fun a y c d h1' h2' => ?_⟩
          obtain ⟨v, n1, n2, n3⟩ := m4 a y c d h1' h2'
          refine ⟨v, n1, n2, ?_⟩
          cases d <;> first | exact VR.ext he n3 | exact absurd n3.1 (by simp)
        | none =>
          rw [gn] at h1
          simp only [Option.some.injEq, Prod.mk.injEq] at h1
          obtain ⟨rfl, rfl⟩ := h1
          have hg' := hg
          rw [show getP C'.R (b, none) = some (_, _) from act_of hRb] at hg'
          simp only [Option.some.injEq, Prod.mk.injEq] at hg'
          obtain ⟨_, rfl⟩ := hg'
          have hxl := k1 x (List.mem_of_getElem? hx)
          refine ⟨fun y hy => ?_, fun h => by have := k2 (e ▸ h); rw [this] at hx; simp at hx, fun g hgi => ?_⟩
          · simp only [absR, getD_of_get hx] at hy
            rcases List.mem_or_eq_of_mem_set hy with h | h
            · exact k1 y h
            · subst h; rw [List.length_set]; exact hxl
          · obtain ⟨cs, ty, m1, m2, m3, m4⟩ := k3 g (e ▸ hgi)
            refine ⟨cs, ty, m1, fun _ r' hr' => ?_, by rw [hlen]; exact m3, fun a y c d h1' h2' => ?_⟩
            · have : r' = absR r q i j := Option.some.inj (hr'.symm.trans hRb)
              subst this
              exact m2 rfl r hn
            · rcases abs_cell hx h1' h2' with ⟨rfl, rfl, rfl, _⟩ | ⟨hne', z, e1, e2⟩
              · obtain ⟨v, n1, n2, n3⟩ := m4 _ x _ _ hx hj
                refine ⟨v, n1, n2, rfl, ?_⟩
                have n3 : VR C v (.ref (m, none) 0 k) := n3
                obtain ⟨a', cap, rfl, hA, hsl⟩ := n3.ref_inv
                rw [← hk]
                refine .ref (.inr rfl) (fun sz' xs' hg2 => ?_)
                rcases new _ sz' xs' hg2 with ⟨_, rfl, rfl⟩ | ⟨h, _⟩
                · obtain ⟨o1, o2, o3, o4, o5⟩ := hsl _ _ gm
                  have e' : C'.io (b, some (a, c)) = C.io (m, none) := (hio _).trans (if_pos rfl)
                  exact ⟨o1, o2, o3, fun h => o4 (e' ▸ h), fun g hg => by
                    obtain ⟨p1, p2⟩ := o5 g (e' ▸ hg)
                    exact ⟨p1, p2⟩⟩
                · exact absurd rfl h
              · obtain ⟨v, n1, n2, n3⟩ := m4 a z c d e1 e2
                refine ⟨v, n1, n2, ?_⟩
                cases d with
                | row s us =>
                  obtain ⟨n4, n5⟩ := n3
                  obtain ⟨a', cap, rfl, hA, hsl⟩ := n5.ref_inv
                  exact ⟨rfl, .ref (.inr rfl) (slx _ _ _ _ _ (fun e => by simp only [Option.some.injEq, Prod.mk.injEq] at e; exact hne' e) hsl)⟩
                | _ => exact VR.ext he n3)
    (fun s t g hs ht h1 h2 => by
      obtain ⟨p, p1, p2, p3, p4⟩ := src s hs
      obtain ⟨p', q1, q2, q3, q4⟩ := src t ht
      have := hC.inj p p' g p1 q1 (p3 ▸ h1) (q3 ▸ h2)
      subst this
      by_cases e1 : s = some (i, j)
      · by_cases e2 : t = some (i, j)
        · rw [e1, e2]
        · rw [if_pos e1] at p4; rw [if_neg e2] at q4
          rw [p4] at q4; simp only [Prod.mk.injEq] at q4; exact absurd q4.1.symm hne
      · rw [if_neg e1] at p4
        by_cases e2 : t = some (i, j)
        · rw [if_pos e2] at q4
          rw [p4] at q4; simp only [Prod.mk.injEq] at q4; exact absurd q4.1 hne
        · rw [if_neg e2] at q4
          rw [p4] at q4; simp only [Prod.mk.injEq] at q4; exact q4.2)
    (fun s g hs h1 => by
      obtain ⟨p, p1, p2, p3, _⟩ := src s hs
      exact .inr ⟨p, p1, p2, p3 ▸ h1⟩)
  refine ⟨C', rfl, S1, S2, S3, rfl, rfl, fun y hy => hy, fun v off len hv => ?_, fun v a c hv => ?_⟩
  · obtain ⟨a', cap, rfl, hA, hsl⟩ := hv.ref_inv
    exact .ref (.inr rfl) (slx _ _ _ _ _ (by simp) hsl)
  · obtain ⟨ad, rfl, hA, hp⟩ := hv.ptr_inv
    refine .ptr (.inr rfl) (fun sz xs hg => ?_)
    rcases new _ sz xs hg with ⟨e, _⟩ | ⟨_, ys, h1, _⟩
    · simp at e
    · obtain ⟨g, g1, g2⟩ := hp sz ys h1
      exact ⟨g, ((hio none).trans (if_neg (by simp))).trans g1, g2⟩

/-- A value under the new name. -/
def abC (n b : Nat) : V → V
  | .ref (x, none) off len => if x = n then .ref (b, none) off len else .ref (x, none) off len
  | .ptr (x, none) a c => if x = n then .ptr (b, none) a c else .ptr (x, none) a c
  | x => x

theorem abC_ok {C' : Cx} {n b : Nat} (he : Ext C C') (h1 : ∀ v off len, VR C v (.ref (n, none) off len) → VR C' v (.ref (b, none) off len)) (h2 : ∀ v a c, VR C v (.ptr (n, none) a c) → VR C' v (.ptr (b, none) a c)) {v : Value} {x : V} (hv : VR C v x) : VR C' v (abC n b x) := by
  unfold abC
  split
  · split
    · rename_i e; subst e; exact h1 _ _ _ hv
    · exact hv.ext he
  · split
    · rename_i e; subst e; exact h2 _ _ _ hv
    · exact hv.ext he
  · exact hv.ext he

theorem lookT_map {f : V → V} (h : f .any = .any) : ∀ (T : List (Nat × V)) (t : Nat), lookT (T.map fun p => (p.1, f p.2)) t = f (lookT T t)
  | [], t => h.symm
  | (k, v) :: T, t => by
    simp only [List.map_cons, lookT]
    split
    · rfl
    · exact lookT_map h T t

/-- Root m becomes the row that cell (i, j) of root n is; n is called b from then on. -/
theorem weak_abs (n m i j : Nat) {k b b' : Nat} {T T' : List (Nat × V)} {R R' : List (Nat × Root)} {r q : Root} {x : List V} (hn : lookR R n = some r) (hm : lookR R m = some q) (hne : n ≠ m) (hx : r.els[i]? = some x) (hj : x[j]? = some (.ref (m, none) 0 k)) (hk : k = q.els.length) (hq : q.els.all (·.all noN0) = true)
    (hT : (T.map fun p => (p.1, abC n b p.2)) = T') (hR : (b, absR r q i j) :: dropR (dropR R n) m = R') (hb : b < b') : Weak E C0 ⟨T, R, b⟩ ⟨T', R', b'⟩ := by
  subst hT; subst hR
  rintro a w ⟨C, rfl, hC, hCR, hTs, hsz, hd, hF, hA⟩
  have hnb : ¬ C.A b := fun h => by
    rcases hA b h with h1 | ⟨_, h1, _⟩
    · exact absurd h1 (by show ¬ b < b; omega)
    · exact h1
  obtain ⟨C', e1, S1, S2, S3, _, e2, e3, e4, e5⟩ := abs_ok (b := b) hC (by rw [hCR]; exact hn) (by rw [hCR]; exact hm) hne hx hj hk hq hnb
  refine ⟨C', e1, S1, ?_, fun t ht => ?_, hsz, hd, hF.next S2 S3, fun y hy => ?_⟩
  · rw [e2, hCR]
    funext y
    show _ = lookR ((b, absR r q i j) :: dropR (dropR R n) m) y
    simp only [lookR, lookR_drop]
    by_cases c1 : y = b
    · rw [if_pos c1, if_pos c1.symm]
    · rw [if_neg c1, if_neg (Ne.symm c1)]
      by_cases c2 : y = n
      · rw [if_pos (by simp [c2])]
        by_cases c3 : y = m
        · rw [if_pos c3]
        · rw [if_neg c3, if_pos c2]
      · by_cases c3 : y = m
        · rw [if_pos (by simp [c3]), if_pos c3]
        · rw [if_neg (by simp [c2, c3]), if_neg c3, if_neg c2]
  · show VR C' _ (lookT (T.map fun p => (p.1, abC n b p.2)) t)
    rw [lookT_map rfl]
    exact abC_ok S2 e4 e5 (hTs t ht)
  · rcases e3 y hy with h | h
    · rcases hA y h with h1 | ⟨_, h1, _⟩
      · exact .inl (Nat.lt_trans h1 hb)
      · exact h1.elim
    · exact .inl (by rw [h]; exact hb)
end Go.Ev
namespace Go.Ev
open Go Go.RowKit
variable {E : Env} {C0 C : Cx}

def plCx (C : Cx) (ρ : Pl → Pl) (R' : Rs) (A' : Nat → Prop) : Cx := { C with io := fun p => C.io (ρ p), R := R', A := A' }

/-- A cell of a place, and what it was. -/
inductive CellP (A' : Nat → Prop) (OA : Nat → Prop) (ρ : Pl → Pl) (p : Pl) (i j : Nat) : V → V → Prop
  | same {c : V} (h : notRow c = true) : CellP A' OA ρ p i j c c
  | row {s : Nat} {zs ws : List (List V)} (hp : p.2 = none) (hl : ws.length = zs.length) (h : ρ (p.1, some (i, j)) = ((ρ p).1, some (i, j))) : CellP A' OA ρ p i j (.row s ws) (.row s zs)
  | un {s : Nat} {zs : List (List V)} {q : Pl} (hA : A' q.1) (hO : ¬ OA q.1) (h : ρ q = ((ρ p).1, some (i, j))) : CellP A' OA ρ p i j (.row s zs) (.ref q 0 zs.length)

structure RenPl (C : Cx) (ρ : Pl → Pl) (R' : Rs) (A' : Nat → Prop) : Prop where
  h : ∀ p sz xs', ¬ C.A p.1 → getP R' p = some (sz, xs') → ∃ xs, getP C.R (ρ p) = some (sz, xs) ∧ xs.length = xs'.length ∧ ∀ (i : Nat) x', xs'[i]? = some x' → ∃ x, xs[i]? = some x ∧ x.length = x'.length ∧ ∀ (j : Nat) c c', x[j]? = some c → x'[j]? = some c' → CellP A' C.A ρ p i j c c'
  inj : ∀ p q, (getP R' p).isSome → (getP R' q).isSome → ρ p = ρ q → p = q
  ty : ∀ n r g cs ty, ¬ C.A n → R' n = some r → C.io (ρ (n, none)) = some g → C.w.heap[g]? = some (.cells cs ty (0, 0)) → r.ty = ty
  nm : ∀ n r, R' n = some r → A' n
  A : ∀ n, C.A n → A' n
  old : ∀ n, C.A n → (R' n = none ∨ R' n = C.R n) ∧ ∀ s, ρ (n, s) = (n, s)

namespace RenPl
variable {ρ : Pl → Pl} {R' : Rs} {A' : Nat → Prop} (u : RenPl C ρ R' A')
include u

theorem oldP {p : Pl} {x} (hA : C.A p.1) (h : getP R' p = some x) : getP C.R p = some x ∧ R' p.1 = C.R p.1 := by
  rcases (u.old _ hA).1 with e | e
  · obtain ⟨r, hr⟩ := getP_some h
    rw [e] at hr; cases hr
  · exact ⟨by rw [← h]; exact getP_congr e.symm, e⟩

theorem act {p : Pl} (h : (getP R' p).isSome) : Act? C (ρ p) := by
  obtain ⟨⟨sz, xs⟩, e⟩ := Option.isSome_iff_exists.1 h
  by_cases hA : C.A p.1
  · have := (u.old _ hA).2 p.2
    rw [this]
    unfold Act?; rw [(u.oldP hA e).1]; rfl
  · obtain ⟨xs0, k, _⟩ := u.h p sz xs hA e
    unfold Act?; rw [k]; rfl

theorem ext : Ext C (plCx C ρ R' A') := by
  refine ⟨fun _ _ => rfl, fun _ h => h, u.A, fun p hA sz xs hx => ?_⟩
  have hx' : getP R' p = some (sz, xs) := hx
  refine ⟨xs, (u.oldP hA hx').1, Nat.le_refl _, ?_, fun g _ cs ty h => ⟨cs, h, rfl⟩⟩
  show C.io (ρ p) = _
  rw [(u.old _ hA).2 p.2]

theorem refP {v : Value} {q : Pl} {off len : Nat} (hA : A' q.1) (hO : ¬ C.A q.1) (hv : VR C v (.ref (ρ q) off len)) : VR (plCx C ρ R' A') v (.ref q off len) := by
  obtain ⟨a, cap, rfl, h1, h2⟩ := hv.ref_inv
  refine .ref hA (fun sz xs hx => ?_)
  obtain ⟨xs0, k1, k2, _⟩ := u.h q sz xs hO hx
  obtain ⟨o1, o2, o3, o4, o5⟩ := h2 _ _ k1
  exact ⟨by omega, o2, o3, o4, o5⟩

theorem ptrP {v : Value} {q : Pl} {i j : Nat} (hA : A' q.1) (hO : ¬ C.A q.1) (hv : VR C v (.ptr (ρ q) i j)) : VR (plCx C ρ R' A') v (.ptr q i j) := by
  obtain ⟨a, rfl, h1, h2⟩ := hv.ptr_inv
  refine .ptr hA (fun sz xs hx => ?_)
  obtain ⟨xs0, k1, k2, _⟩ := u.h q sz xs hO hx
  exact h2 _ _ k1

theorem sat (hC : Sat C) : Sat (plCx C ρ R' A') ∧ Fr C (plCx C ρ R' A') := by
  have he := u.ext
  have act : ∀ p, Act? (plCx C ρ R' A') p → Act? C (ρ p) := fun p h => u.act h
  refine ⟨⟨fun p sz xs hp => ?_, fun p q g hp hq h1 h2 => u.inj p q hp hq (hC.inj _ _ g (act p hp) (act q hq) h1 h2), fun p g hp h1 => hC.own _ g (act p hp) h1, hC.lt, u.nm⟩, ⟨rfl, rfl, rfl, Nat.le_refl _, fun _ _ _ => rfl, ?_, fun _ h => .inl h⟩⟩
  · have hp' : getP R' p = some (sz, xs) := hp
    by_cases hA : C.A p.1
    · obtain ⟨k, kR⟩ := u.oldP hA hp'
      obtain ⟨k1, k2, k3⟩ := hC.pl p sz xs k
      have e : ρ p = p := (u.old _ hA).2 p.2
      have e' : (plCx C ρ R' A').io p = C.io p := by show C.io (ρ p) = _; rw [e]
      refine ⟨k1, fun h => k2 (e' ▸ h), fun g hg => ?_⟩
      obtain ⟨cs, ty, m1, m2, m3, m4⟩ := k3 g (e' ▸ hg)
      refine ⟨cs, ty, m1, fun hn r hr => m2 hn r (by rw [← kR]; exact hr), m3, fun i x j c h1 h2 => ?_⟩
      obtain ⟨v, n1, n2, n3⟩ := m4 i x j c h1 h2
      exact ⟨v, n1, n2, n3.ext he⟩
    · obtain ⟨xs0, h1, h2, h3⟩ := u.h p sz xs hA hp'
      obtain ⟨k1, k2, k3⟩ := hC.pl _ _ _ h1
      refine ⟨fun x hx => ?_, fun h => ?_, fun g hg => ?_⟩
      · obtain ⟨i, hi⟩ := List.getElem?_of_mem hx
        obtain ⟨x0, e1, e2, _⟩ := h3 i x hi
        rw [← e2]; exact k1 x0 (List.mem_of_getElem? e1)
      · have := k2 h; rw [this] at h2; exact List.eq_nil_of_length_eq_zero h2.symm
      · obtain ⟨cs, ty, m1, m2, m3, m4⟩ := k3 g hg
        refine ⟨cs, ty, m1, fun hn r hr => ?_, by rw [← h2]; exact m3, fun i x' j c' e1 e2 => ?_⟩
        · obtain ⟨n, s⟩ := p
          simp only at hn
          subst hn
          exact u.ty n r g cs ty hA hr hg m1
        · obtain ⟨x, e3, e4, e5⟩ := h3 i x' e1
          have hj := (List.getElem?_eq_some_iff.1 e2).1
          have e6 : x[j]? = some (x[j]'(by omega)) := List.getElem?_eq_getElem _
          obtain ⟨v, n1, n2, n3⟩ := m4 i x j _ e3 e6
          refine ⟨v, n1, n2, ?_⟩
          have hc := e5 j _ c' e6 e2
          generalize x[j]'(by omega) = c at hc n3
          cases hc with
          | same h => cases c' <;> first | exact VR.ext he n3 | simp [notRow] at h
          | row hp2 hl h =>
            obtain ⟨n4, n5⟩ := n3
            refine ⟨hp2, ?_⟩
            rw [← hl]
            exact u.refP (u.nm _ _ (getP_some hp').choose_spec) hA (by rw [h]; exact n5)
          | un hA' hO h =>
            obtain ⟨n4, n5⟩ := n3
            exact u.refP hA' hO (by rw [h]; exact n5)
  · rintro b ⟨p, hp, hi⟩
    exact .inl ⟨_, act p hp, hi⟩
end RenPl

def unR (r : Root) (i j m k : Nat) : Root := { r with els := r.els.set i ((r.els.getD i []).set j (.ref (m, none) 0 k)) }
def unPl (n i j b : Nat) (p : Pl) : Pl := if p.1 = b then (n, p.2) else if p.1 = b + 1 then (n, some (i, j)) else p

theorem un_cell {r : Root} {i j a m k : Nat} {x y : List V} (hx : r.els[i]? = some x) {c : Nat} {d : V} (h1 : (unR r i j m k).els[a]? = some y) (h2 : y[c]? = some d) :
    (a = i ∧ c = j ∧ d = .ref (m, none) 0 k) ∨ (¬ (a = i ∧ c = j) ∧ ∃ z, r.els[a]? = some z ∧ z[c]? = some d) := by
  simp only [unR, getD_of_get hx] at h1
  rcases set_get h1 with ⟨rfl, rfl⟩ | ⟨e, h1⟩
  · rcases set_get h2 with ⟨rfl, rfl⟩ | ⟨e, h2⟩
    · exact .inl ⟨rfl, rfl, rfl⟩
    · exact .inr ⟨fun h => e h.2, _, hx, h2⟩
  · exact .inr ⟨fun h => e h.1, _, h1, h2⟩

theorem un_ok (hC : Sat C) {n i j s b : Nat} {ty : TypeId} {r : Root} {x : List V} {zs : List (List V)} {R' : Rs} (hn : C.R n = some r) (hx : r.els[i]? = some x) (hj : x[j]? = some (.row s zs)) (hb : ¬ C.A b) (hb1 : ¬ C.A (b + 1))
    (hty : ∀ g cs ty', C.io (n, some (i, j)) = some g → C.w.heap[g]? = some (.cells cs ty' (0, 0)) → ty = ty')
    (hR : ∀ y, R' y = if y = b then some (unR r i j (b + 1) zs.length) else if y = b + 1 then some ⟨ty, s, zs⟩ else if y = n then none else C.R y) : RenPl C (unPl n i j b) R' (fun y => C.A y ∨ y = b ∨ y = b + 1) := by
  have gij : getP C.R (n, some (i, j)) = some (s, zs) := getP_cell hn hx hj
  have hno := sat_norow hC gij
  have hnA := hC.nm n r hn
  have hnb : n ≠ b := fun e => hb (e ▸ hnA)
  have hnb1 : n ≠ b + 1 := fun e => hb1 (e ▸ hnA)
  have rb : R' b = some (unR r i j (b + 1) zs.length) := by rw [hR, if_pos rfl]
  have rb1 : R' (b + 1) = some ⟨ty, s, zs⟩ := by rw [hR, if_neg (by omega), if_pos rfl]
  have rn : R' n = none := by rw [hR, if_neg hnb, if_neg hnb1, if_pos rfl]
  have pb : ∀ t, unPl n i j b (b, t) = (n, t) := fun t => if_pos rfl
  have pb1 : ∀ t, unPl n i j b (b + 1, t) = (n, some (i, j)) := fun t => by unfold unPl; rw [if_neg (by show ¬ b + 1 = b; omega)]; exact if_pos rfl
  have po : ∀ p : Pl, p.1 ≠ b → p.1 ≠ b + 1 → unPl n i j b p = p := fun p h1 h2 => by simp only [unPl]; rw [if_neg h1, if_neg h2]
  have inact : ∀ ij, getP R' (b + 1, some ij) = none := by
    intro ij
    cases e : getP R' (b + 1, some ij) with
    | none => rfl
    | some q =>
      obtain ⟨a, c⟩ := ij
      obtain ⟨y, h1, h2⟩ := getP_row rb1 e
      exact absurd rfl (hno y (List.mem_of_getElem? h1) _ (List.mem_of_getElem? h2) _ _)
  have inij : getP R' (b, some (i, j)) = none := by
    cases e : getP R' (b, some (i, j)) with
    | none => rfl
    | some q =>
      obtain ⟨y, h1, h2⟩ := getP_row rb e
      rcases un_cell hx h1 h2 with ⟨_, _, h3⟩ | ⟨h3, _⟩
      · cases h3
      · exact absurd ⟨rfl, rfl⟩ h3
  have same : ∀ p ρp (ys : List (List V)), (∀ y, y ∈ ys → ∀ d, d ∈ y → notRow d = true) → ∀ (a : Nat) y, ys[a]? = some y → ∃ z, ys[a]? = some z ∧ z.length = y.length ∧ ∀ (c : Nat) d d', z[c]? = some d → y[c]? = some d' → CellP (fun y => C.A y ∨ y = b ∨ y = b + 1) C.A ρp p a c d d' := by
    intro p ρp ys hnr a y hy
    refine ⟨y, hy, rfl, fun c d d' h1 h2 => ?_⟩
    obtain rfl := Option.some.inj (h1.symm.trans h2)
    exact .same (hnr y (List.mem_of_getElem? hy) d (List.mem_of_getElem? h1))
  have nr : ∀ {ys : List (List V)}, NoRow ys → ∀ y, y ∈ ys → ∀ d, d ∈ y → notRow d = true := by
    intro ys h y hy d hd
    cases d <;> first | rfl | exact absurd rfl (h y hy _ hd _ _)
  refine ⟨fun p sz xs' hA hp => ?_, fun p q hp hq e => ?_, fun m r' g cs ty' hA hr hg hh => ?_, fun m r' hr => ?_, fun m hm => .inl hm, fun m hm => ?_⟩
  · obtain ⟨m, t⟩ := p
    by_cases e1 : m = b
    · subst e1
      rw [pb]
      cases t with
      | none =>
        rw [act_of rb] at hp
        simp only [Option.some.injEq, Prod.mk.injEq] at hp
        obtain ⟨rfl, rfl⟩ := hp
        refine ⟨r.els, act_of hn, by simp [unR], fun a y hy => ?_⟩
        have hal := (List.getElem?_eq_some_iff.1 hy).1
        simp only [unR, List.length_set] at hal
        have e : r.els[a]? = some r.els[a] := List.getElem?_eq_getElem hal
        refine ⟨r.els[a], e, ?_, fun c d d' h1 h2 => ?_⟩
        · simp only [unR, getD_of_get hx] at hy
          rcases set_get hy with ⟨rfl, rfl⟩ | ⟨_, hy⟩
          · rw [List.length_set]
            rw [hx] at e
            rw [← Option.some.inj e]
          · rw [hy] at e; rw [Option.some.inj e]
        · rcases un_cell hx hy h2 with ⟨rfl, rfl, rfl⟩ | ⟨hne, z, h3, h4⟩
          · rw [hx] at e
            rw [← Option.some.inj e, hj] at h1
            cases h1
            exact .un (q := (m + 1, none)) (.inr (.inr rfl)) hb1 (by rw [pb1, pb])
          · rw [e] at h3
            cases h3
            obtain rfl := Option.some.inj (h1.symm.trans h4)
            cases d with
            | row s' zs' => exact .row rfl rfl (by rw [pb, pb])
            | _ => exact .same rfl
      | some ac =>
        obtain ⟨a, c⟩ := ac
        obtain ⟨y, h1, h2⟩ := getP_row rb hp
        rcases un_cell hx h1 h2 with ⟨_, _, h3⟩ | ⟨hne, z, h3, h4⟩
        · cases h3
        · have hg := getP_cell hn h3 h4
          exact ⟨xs', hg, rfl, same _ _ xs' (nr (sat_norow hC hg))⟩
    · by_cases e2 : m = b + 1
      · subst e2
        rw [pb1]
        cases t with
        | none =>
          rw [act_of rb1] at hp
          simp only [Option.some.injEq, Prod.mk.injEq] at hp
          obtain ⟨rfl, rfl⟩ := hp
          exact ⟨zs, gij, rfl, same _ _ zs (nr hno)⟩
        | some ac => rw [inact] at hp; cases hp
      · obtain ⟨r', hr'⟩ := getP_some hp
        have hr2 := hr'
        simp only [hR] at hr2
        rw [if_neg e1, if_neg e2] at hr2
        split at hr2
        · cases hr2
        · exact absurd (hC.nm _ _ hr2) hA
  · have key : ∀ p : Pl, (getP R' p).isSome → (p.1 = b ∧ p.2 ≠ some (i, j)) ∨ (p = (b + 1, none)) ∨ (p.1 ≠ b ∧ p.1 ≠ b + 1 ∧ p.1 ≠ n) := by
      intro p h
      obtain ⟨m, t⟩ := p
      by_cases e1 : m = b
      · subst e1
        exact .inl ⟨rfl, fun e => by simp only at e; rw [e, inij] at h; cases h⟩
      · by_cases e2 : m = b + 1
        · subst e2
          cases t with
          | none => exact .inr (.inl rfl)
          | some ac => rw [inact] at h; cases h
        · refine .inr (.inr ⟨e1, e2, fun e => ?_⟩)
          obtain ⟨x, hx⟩ := Option.isSome_iff_exists.1 h
          obtain ⟨r', hr'⟩ := getP_some hx
          simp only at e hr'
          rw [e, rn] at hr'; cases hr'
    obtain ⟨m, t⟩ := p
    obtain ⟨m', t'⟩ := q
    rcases key _ hp with ⟨h1, h2⟩ | h1 | ⟨h1, h2, h3⟩ <;> rcases key _ hq with ⟨k1, k2⟩ | k1 | ⟨k1, k2, k3⟩ <;> simp only [Prod.mk.injEq] at h1 k1
    · subst h1; subst k1
      rw [pb, pb] at e
      simp only [Prod.mk.injEq, true_and] at e
      rw [e]
    · subst h1; obtain ⟨rfl, rfl⟩ := k1
      rw [pb, pb1] at e
      simp only [Prod.mk.injEq, true_and] at e
      exact absurd e h2
    · subst h1
      rw [pb, po _ k1 k2] at e
      simp only [Prod.mk.injEq] at e
      exact absurd e.1.symm k3
    · obtain ⟨rfl, rfl⟩ := h1; subst k1
      rw [pb, pb1] at e
      simp only [Prod.mk.injEq, true_and] at e
      exact absurd e.symm k2
    · obtain ⟨rfl, rfl⟩ := h1; obtain ⟨rfl, rfl⟩ := k1; rfl
    · obtain ⟨rfl, rfl⟩ := h1
      rw [pb1, po _ k1 k2] at e
      simp only [Prod.mk.injEq] at e
      exact absurd e.1.symm k3
    · subst k1
      rw [pb, po _ h1 h2] at e
      simp only [Prod.mk.injEq] at e
      exact absurd e.1 h3
    · obtain ⟨rfl, rfl⟩ := k1
      rw [pb1, po _ h1 h2] at e
      simp only [Prod.mk.injEq] at e
      exact absurd e.1 h3
    · rw [po _ h1 h2, po _ k1 k2] at e; exact e
  · rw [hR] at hr
    split at hr
    · rename_i e
      subst e
      cases hr
      rw [pb] at hg
      obtain ⟨_, _, k3⟩ := hC.pl _ _ _ (act_of hn)
      obtain ⟨cs', ty'', m1, m2, _⟩ := k3 g hg
      rw [hh] at m1
      simp only [Option.some.injEq, Obj.cells.injEq] at m1
      rw [m1.2.1]
      exact m2 rfl r hn
    · split at hr
      · rename_i e
        subst e
        cases hr
        rw [pb1] at hg
        exact hty g cs ty' hg hh
      · split at hr
        · cases hr
        · exact absurd (hC.nm _ _ hr) hA
  · rw [hR] at hr
    split at hr
    · rename_i e; exact .inr (.inl e)
    · split at hr
      · rename_i e; exact .inr (.inr e)
      · split at hr
        · cases hr
        · exact .inl (hC.nm _ _ hr)
  · have e1 : m ≠ b := fun e => hb (e ▸ hm)
    have e2 : m ≠ b + 1 := fun e => hb1 (e ▸ hm)
    refine ⟨?_, fun t => po (m, t) e1 e2⟩
    rw [hR, if_neg e1, if_neg e2]
    split
    · exact .inl rfl
    · exact .inr rfl

/-- A row becomes a root of its own (b + 1, of some type); the root that holds it is called b from then on. -/
theorem ev_unabs {c : Code} {K : Exit → St → Prop} (n i j : Nat) {b b' s : Nat} {T T' : List (Nat × V)} {R : List (Nat × Root)} {r : Root} {x : List V} {zs : List (List V)} (hn : lookR R n = some r) (hx : r.els[i]? = some x) (hj : x[j]? = some (.row s zs))
    (hT : (T.map fun p => (p.1, abC n b p.2)) = T') (hb : b + 1 < b') (h : ∀ ty, Ev E C0 c K ⟨T', (b, unR r i j (b + 1) zs.length) :: (b + 1, ⟨ty, s, zs⟩) :: dropR R n, b'⟩) : Ev E C0 c K ⟨T, R, b⟩ := by
  subst hT
  rintro a w ⟨C, rfl, hC, hCR, hTs, hsz, hd, hF, hA⟩
  have fresh : ∀ m, b ≤ m → ¬ C.A m := fun m hm h => by
    rcases hA m h with h1 | ⟨_, h1, _⟩
    · exact absurd h1 (by show ¬ m < b; omega)
    · exact h1
  obtain ⟨ty, hty⟩ : ∃ ty, ∀ g cs ty', C.io (n, some (i, j)) = some g → C.w.heap[g]? = some (.cells cs ty' (0, 0)) → ty = ty' := by
    cases e : C.io (n, some (i, j)) with
    | none => exact ⟨0, fun g cs ty' h => by cases h⟩
    | some g =>
      have gij : getP C.R (n, some (i, j)) = some (s, zs) := getP_cell (by rw [hCR]; exact hn) hx hj
      obtain ⟨cs, ty, m1, _⟩ := (hC.pl _ _ _ gij).2.2 g e
      refine ⟨ty, fun g' cs' ty' h h' => ?_⟩
      cases h
      rw [m1] at h'
      simp only [Option.some.injEq, Obj.cells.injEq] at h'
      exact h'.2.1
  refine h ty a C.w ?_
  have u := un_ok (b := b) (R' := lookR ((b, unR r i j (b + 1) zs.length) :: (b + 1, ⟨ty, s, zs⟩) :: dropR R n)) hC (by rw [hCR]; exact hn) hx hj (fresh b (Nat.le_refl _)) (fresh (b + 1) (by omega)) hty (fun y => by
    simp only [lookR, lookR_drop]
    by_cases e1 : y = b
    · rw [if_pos e1, if_pos e1.symm]
    · rw [if_neg e1, if_neg (Ne.symm e1)]
      by_cases e2 : y = b + 1
      · rw [if_pos e2, if_pos e2.symm]
      · rw [if_neg e2, if_neg (Ne.symm e2), hCR])
  obtain ⟨S1, S3⟩ := u.sat hC
  have pb : ∀ t, unPl n i j b (b, t) = (n, t) := fun t => if_pos rfl
  refine ⟨plCx C (unPl n i j b) (lookR ((b, unR r i j (b + 1) zs.length) :: (b + 1, ⟨ty, s, zs⟩) :: dropR R n)) (fun y => C.A y ∨ y = b ∨ y = b + 1), rfl, S1, rfl, fun t ht => ?_, hsz, hd, hF.next u.ext S3, fun y hy => ?_⟩
  · show VR _ _ (lookT (T.map fun p => (p.1, abC n b p.2)) t)
    rw [lookT_map rfl]
    exact abC_ok u.ext (fun v off len hv => u.refP (.inr (.inl rfl)) (fresh b (Nat.le_refl _)) (by rw [pb]; exact hv)) (fun v a c hv => u.ptrP (.inr (.inl rfl)) (fresh b (Nat.le_refl _)) (by rw [pb]; exact hv)) (hTs t ht)
  · left
    rcases hy with h | h | h
    · rcases hA y h with h1 | ⟨_, h1, _⟩
      · have : y < b := h1
        show y < b'; omega
      · exact h1.elim
    · show y < b'; omega
    · show y < b'; omega
end Go.Ev
/- The types of the program, as a table. -/
set_option maxRecDepth 20000
namespace Go.Ev
open Go Go.Proofs
def tabL : List (Nat × TI) := [(1, ⟨false, 1, 0, [], [.nilFunc], 8, 0, false, none⟩),
  (2, ⟨false, 1, 0, [], [(.int .i64 0)], 8, 0, false, some .i64⟩),
  (3, ⟨false, 1, 0, [], [(.int .i64 0)], 8, 0, false, some .i64⟩),
  (4, ⟨false, 1, 0, [], [(.bool false)], 1, 1, false, none⟩),
  (5, ⟨false, 1, 0, [], [(.int .u8 0)], 1, 0, false, some .u8⟩),
  (6, ⟨false, 1, 0, [], [(.int .u8 0)], 1, 0, false, some .u8⟩),
  (7, ⟨true, 4, 0, [(0, 1, false), (1, 1, false), (2, 1, false), (3, 1, false)], [(.int .i64 0), (.int .i64 0), (.bool false), (.int .u8 0)], 24, 0, false, none⟩),
  (8, ⟨true, 4, 0, [(0, 1, false), (1, 1, false), (2, 1, false), (3, 1, false)], [(.int .i64 0), (.int .i64 0), (.bool false), (.int .u8 0)], 24, 0, false, none⟩),
  (9, ⟨false, 1, 0, [], [(.string .empty)], 16, 2, false, none⟩),
  (10, ⟨false, 1, 0, [], [(.string .empty)], 16, 2, false, none⟩),
  (11, ⟨false, 1, 0, [], [(.string .empty)], 16, 2, false, none⟩),
  (12, ⟨false, 1, 0, [], [(.int .u64 0)], 8, 0, false, some .u64⟩),
  (13, ⟨true, 2, 0, [(0, 1, false), (1, 1, false)], [(.string .empty), (.int .u64 0)], 24, 0, false, none⟩),
  (14, ⟨true, 2, 0, [(0, 1, false), (1, 1, false)], [(.string .empty), (.int .u64 0)], 24, 0, false, none⟩),
  (15, ⟨false, 1, 0, [], [(.pointer none)], 8, 0, false, none⟩),
  (16, ⟨false, 1, 0, [], [(.pointer none)], 8, 0, false, none⟩),
  (17, ⟨false, 1, 0, [], [(.pointer none)], 8, 0, false, none⟩),
  (18, ⟨true, 1, 0, [(0, 1, false)], [(.pointer none)], 8, 0, false, none⟩),
  (19, ⟨true, 1, 0, [(0, 1, false)], [(.pointer none)], 8, 0, false, none⟩),
  (21, ⟨false, 1, 0, [], [(.int .i32 0)], 4, 0, false, some .i32⟩),
  (22, ⟨false, 1, 29, [], [(.slice none 0 0)], 24, 0, true, none⟩),
  (23, ⟨true, 1, 0, [(0, 1, false)], [(.slice none 0 0)], 24, 0, true, none⟩),
  (24, ⟨true, 1, 0, [(0, 1, false)], [(.slice none 0 0)], 24, 0, true, none⟩),
  (25, ⟨true, 4, 0, [(0, 1, false), (1, 1, false), (2, 1, false), (3, 1, false)], [(.int .i64 0), (.int .i64 0), (.int .i64 0), (.int .i64 0)], 32, 0, false, none⟩),
  (26, ⟨true, 4, 0, [(0, 1, false), (1, 1, false), (2, 1, false), (3, 1, false)], [(.int .i64 0), (.int .i64 0), (.int .i64 0), (.int .i64 0)], 32, 0, false, none⟩),
  (27, ⟨true, 7, 0, [(0, 1, true), (1, 4, true), (5, 1, false), (6, 1, false)], [(.slice none 0 0), (.int .i64 0), (.int .i64 0), (.int .i64 0), (.int .i64 0), (.int .i64 0), (.int .i64 0)], 72, 0, true, none⟩),
  (28, ⟨true, 7, 0, [(0, 1, true), (1, 4, true), (5, 1, false), (6, 1, false)], [(.slice none 0 0), (.int .i64 0), (.int .i64 0), (.int .i64 0), (.int .i64 0), (.int .i64 0), (.int .i64 0)], 72, 0, true, none⟩),
  (29, ⟨false, 1, 5, [], [(.slice none 0 0)], 24, 0, true, none⟩),
  (30, ⟨false, 1, 0, [], [.nilFunc], 8, 0, false, none⟩),
  (31, ⟨true, 1, 0, [(0, 1, false)], [(.slice none 0 0)], 24, 0, true, none⟩),
  (32, ⟨true, 4, 0, [(0, 1, false), (1, 1, false), (2, 1, false), (3, 1, false)], [(.int .i64 0), (.int .i64 0), (.int .i64 0), (.int .i64 0)], 32, 0, false, none⟩),
  (33, ⟨true, 7, 0, [(0, 1, true), (1, 4, true), (5, 1, false), (6, 1, false)], [(.slice none 0 0), (.int .i64 0), (.int .i64 0), (.int .i64 0), (.int .i64 0), (.int .i64 0), (.int .i64 0)], 72, 0, true, none⟩),
  (34, ⟨true, 7, 0, [(0, 1, true), (1, 4, true), (5, 1, false), (6, 1, false)], [(.slice none 0 0), (.int .i64 0), (.int .i64 0), (.int .i64 0), (.int .i64 0), (.int .i64 0), (.int .i64 0)], 72, 0, true, none⟩),
  (36, ⟨false, 1, 0, [], [.nilFunc], 8, 0, false, none⟩),
  (37, ⟨false, 1, 0, [], [.nilFunc], 8, 0, false, none⟩),
  (38, ⟨false, 1, 0, [], [.nilFunc], 8, 0, false, none⟩),
  (39, ⟨false, 1, 0, [], [.nilFunc], 8, 0, false, none⟩),
  (40, ⟨false, 1, 0, [], [.nilFunc], 8, 0, false, none⟩),
  (41, ⟨false, 1, 0, [], [.nilFunc], 8, 0, false, none⟩),
  (42, ⟨false, 1, 0, [], [.nilFunc], 8, 0, false, none⟩),
  (43, ⟨false, 1, 0, [], [.nilFunc], 8, 0, false, none⟩),
  (44, ⟨true, 3, 0, [(0, 1, false), (1, 1, false), (2, 1, false)], [(.int .i64 0), (.int .i64 0), (.slice none 0 0)], 40, 0, true, none⟩),
  (45, ⟨true, 3, 0, [(0, 1, false), (1, 1, false), (2, 1, false)], [(.int .i64 0), (.int .i64 0), (.slice none 0 0)], 40, 0, true, none⟩),
  (46, ⟨false, 1, 0, [], [.nilFunc], 8, 0, false, none⟩),
  (48, ⟨false, 1, 0, [], [.nilFunc], 8, 0, false, none⟩),
  (49, ⟨true, 3, 0, [(0, 1, false), (1, 1, false), (2, 1, false)], [(.int .i64 0), (.int .i64 0), (.slice none 0 0)], 40, 0, true, none⟩),
  (50, ⟨false, 1, 0, [], [.nilFunc], 8, 0, false, none⟩),
  (51, ⟨false, 1, 0, [], [.nilFunc], 8, 0, false, none⟩),
  (52, ⟨false, 1, 0, [], [.nilFunc], 8, 0, false, none⟩),
  (53, ⟨false, 1, 0, [], [.nilFunc], 8, 0, false, none⟩),
  (54, ⟨false, 1, 45, [], [(.slice none 0 0)], 24, 0, true, none⟩),
  (55, ⟨false, 1, 0, [], [.nilFunc], 8, 0, false, none⟩),
  (57, ⟨false, 1, 0, [], [.nilFunc], 8, 0, false, none⟩),
  (58, ⟨false, 1, 49, [], [(.slice none 0 0)], 24, 0, true, none⟩),
  (59, ⟨false, 1, 0, [], [.nilFunc], 8, 0, false, none⟩),
  (60, ⟨false, 1, 0, [], [.nilFunc], 8, 0, false, none⟩),
  (61, ⟨false, 1, 0, [], [.nilFunc], 8, 0, false, none⟩),
  (62, ⟨false, 1, 0, [], [.nilFunc], 8, 0, false, none⟩),
  (63, ⟨false, 1, 3, [], [(.slice none 0 0)], 24, 0, true, none⟩),
  (64, ⟨true, 7, 0, [(0, 1, true), (1, 4, true), (5, 1, false), (6, 1, false)], [(.slice none 0 0), (.int .i64 0), (.int .i64 0), (.int .i64 0), (.int .i64 0), (.int .i64 0), (.slice none 0 0)], 88, 0, true, none⟩),
  (65, ⟨true, 7, 0, [(0, 1, true), (1, 4, true), (5, 1, false), (6, 1, false)], [(.slice none 0 0), (.int .i64 0), (.int .i64 0), (.int .i64 0), (.int .i64 0), (.int .i64 0), (.slice none 0 0)], 88, 0, true, none⟩),
  (66, ⟨true, 2, 0, [(0, 1, false), (1, 1, false)], [(.int .i64 0), (.int .i64 0)], 16, 0, false, none⟩),
  (67, ⟨true, 2, 0, [(0, 1, false), (1, 1, false)], [(.int .i64 0), (.int .i64 0)], 16, 0, false, none⟩),
  (68, ⟨false, 1, 0, [], [.nilFunc], 8, 0, false, none⟩),
  (69, ⟨true, 7, 0, [(0, 1, true), (1, 4, true), (5, 1, false), (6, 1, false)], [(.slice none 0 0), (.int .i64 0), (.int .i64 0), (.int .i64 0), (.int .i64 0), (.int .i64 0), (.slice none 0 0)], 88, 0, true, none⟩),
  (70, ⟨true, 7, 0, [(0, 1, true), (1, 4, true), (5, 1, false), (6, 1, false)], [(.slice none 0 0), (.int .i64 0), (.int .i64 0), (.int .i64 0), (.int .i64 0), (.int .i64 0), (.slice none 0 0)], 88, 0, true, none⟩),
  (72, ⟨false, 1, 0, [], [.nilFunc], 8, 0, false, none⟩),
  (73, ⟨false, 1, 0, [], [.nilFunc], 8, 0, false, none⟩),
  (74, ⟨true, 2, 0, [(0, 1, false), (1, 1, false)], [(.int .i64 0), (.int .i64 0)], 16, 0, false, none⟩),
  (75, ⟨false, 1, 0, [], [.nilFunc], 8, 0, false, none⟩),
  (76, ⟨false, 1, 0, [], [.nilFunc], 8, 0, false, none⟩),
  (77, ⟨false, 1, 0, [], [.nilFunc], 8, 0, false, none⟩),
  (78, ⟨false, 1, 0, [], [.nilFunc], 8, 0, false, none⟩),
  (79, ⟨false, 1, 0, [], [.nilFunc], 8, 0, false, none⟩),
  (80, ⟨false, 1, 67, [], [(.slice none 0 0)], 24, 0, true, none⟩),
  (81, ⟨false, 1, 0, [], [.nilFunc], 8, 0, false, none⟩),
  (82, ⟨false, 1, 32, [], [(.slice none 0 0)], 24, 0, true, none⟩),
  (84, ⟨false, 1, 0, [], [.nilFunc], 8, 0, false, none⟩),
  (85, ⟨false, 1, 74, [], [(.slice none 0 0)], 24, 0, true, none⟩),
  (86, ⟨false, 1, 0, [], [.nilFunc], 8, 0, false, none⟩),
  (87, ⟨false, 1, 0, [], [.nilFunc], 8, 0, false, none⟩),
  (88, ⟨false, 1, 0, [], [.nilFunc], 8, 0, false, none⟩),
  (89, ⟨false, 1, 0, [], [.nilFunc], 8, 0, false, none⟩),
  (90, ⟨false, 1, 0, [], [.nilFunc], 8, 0, false, none⟩),
  (91, ⟨false, 1, 0, [], [.nilFunc], 8, 0, false, none⟩),
  (92, ⟨false, 1, 26, [], [(.slice none 0 0)], 24, 0, true, none⟩),
  (93, ⟨true, 1, 0, [(0, 1, false)], [(.slice none 0 0)], 24, 0, true, none⟩),
  (94, ⟨true, 1, 0, [(0, 1, false)], [(.slice none 0 0)], 24, 0, true, none⟩),
  (95, ⟨false, 1, 0, [], [.nilFunc], 8, 0, false, none⟩),
  (96, ⟨false, 1, 0, [], [.nilFunc], 8, 0, false, none⟩),
  (97, ⟨true, 1, 0, [(0, 1, false)], [(.slice none 0 0)], 24, 0, true, none⟩),
  (98, ⟨true, 1, 0, [(0, 1, false)], [(.slice none 0 0)], 24, 0, true, none⟩),
  (100, ⟨false, 1, 0, [], [.nilFunc], 8, 0, false, none⟩),
  (101, ⟨false, 1, 0, [], [.nilFunc], 8, 0, false, none⟩),
  (102, ⟨false, 1, 0, [], [.nilFunc], 8, 0, false, none⟩),
  (103, ⟨false, 1, 0, [], [.nilFunc], 8, 0, false, none⟩),
  (104, ⟨false, 1, 0, [], [.nilFunc], 8, 0, false, none⟩),
  (105, ⟨false, 1, 0, [], [.nilFunc], 8, 0, false, none⟩),
  (106, ⟨false, 1, 0, [], [.nilFunc], 8, 0, false, none⟩),
  (107, ⟨false, 1, 0, [], [.nilFunc], 8, 0, false, none⟩),
  (108, ⟨false, 1, 0, [], [.nilFunc], 8, 0, false, none⟩),
  (109, ⟨false, 1, 0, [], [.nilFunc], 8, 0, false, none⟩),
  (110, ⟨true, 3, 0, [(0, 1, true), (1, 1, false), (2, 1, false)], [(.slice none 0 0), (.slice none 0 0), (.int .i64 0)], 56, 0, true, none⟩),
  (111, ⟨true, 3, 0, [(0, 1, true), (1, 1, false), (2, 1, false)], [(.slice none 0 0), (.slice none 0 0), (.int .i64 0)], 56, 0, true, none⟩),
  (112, ⟨true, 4, 0, [(0, 1, false), (1, 1, false), (2, 1, false), (3, 1, false)], [(.int .i64 0), (.int .i64 0), (.int .i64 0), (.int .i64 0)], 32, 0, false, none⟩),
  (113, ⟨true, 4, 0, [(0, 1, false), (1, 1, false), (2, 1, false), (3, 1, false)], [(.int .i64 0), (.int .i64 0), (.int .i64 0), (.int .i64 0)], 32, 0, false, none⟩),
  (114, ⟨false, 1, 0, [], [.nilFunc], 8, 0, false, none⟩),
  (115, ⟨true, 3, 0, [(0, 1, true), (1, 1, false), (2, 1, false)], [(.slice none 0 0), (.slice none 0 0), (.int .i64 0)], 56, 0, true, none⟩),
  (116, ⟨true, 3, 0, [(0, 1, true), (1, 1, false), (2, 1, false)], [(.slice none 0 0), (.slice none 0 0), (.int .i64 0)], 56, 0, true, none⟩),
  (118, ⟨false, 1, 0, [], [.nilFunc], 8, 0, false, none⟩),
  (119, ⟨false, 1, 0, [], [.nilFunc], 8, 0, false, none⟩),
  (120, ⟨true, 4, 0, [(0, 1, false), (1, 1, false), (2, 1, false), (3, 1, false)], [(.int .i64 0), (.int .i64 0), (.int .i64 0), (.int .i64 0)], 32, 0, false, none⟩),
  (121, ⟨false, 1, 0, [], [.nilFunc], 8, 0, false, none⟩),
  (122, ⟨false, 1, 0, [], [.nilFunc], 8, 0, false, none⟩),
  (123, ⟨false, 1, 0, [], [.nilFunc], 8, 0, false, none⟩),
  (124, ⟨false, 1, 0, [], [.nilFunc], 8, 0, false, none⟩),
  (125, ⟨false, 1, 113, [], [(.slice none 0 0)], 24, 0, true, none⟩),
  (126, ⟨false, 1, 0, [], [.nilFunc], 8, 0, false, none⟩),
  (128, ⟨false, 1, 0, [], [.nilFunc], 8, 0, false, none⟩),
  (129, ⟨false, 1, 120, [], [(.slice none 0 0)], 24, 0, true, none⟩),
  (130, ⟨false, 1, 0, [], [.nilFunc], 8, 0, false, none⟩),
  (131, ⟨false, 1, 0, [], [.nilFunc], 8, 0, false, none⟩),
  (132, ⟨false, 1, 0, [], [.nilFunc], 8, 0, false, none⟩),
  (133, ⟨false, 1, 0, [], [.nilFunc], 8, 0, false, none⟩),
  (134, ⟨false, 1, 0, [], [.nilFunc], 8, 0, false, none⟩),
  (135, ⟨false, 1, 0, [], [.nilFunc], 8, 0, false, none⟩),
  (136, ⟨false, 1, 0, [], [.nilFunc], 8, 0, false, none⟩),
  (137, ⟨false, 1, 0, [], [.nilFunc], 8, 0, false, none⟩),
  (138, ⟨false, 1, 0, [], [.nilFunc], 8, 0, false, none⟩),
  (139, ⟨false, 1, 0, [], [.nilFunc], 8, 0, false, none⟩),
  (140, ⟨false, 1, 0, [], [.nilFunc], 8, 0, false, none⟩),
  (141, ⟨false, 1, 0, [], [.nilFunc], 8, 0, false, none⟩),
  (142, ⟨false, 1, 0, [], [.nilFunc], 8, 0, false, none⟩),
  (143, ⟨false, 1, 0, [], [.nilFunc], 8, 0, false, none⟩),
  (144, ⟨false, 1, 0, [], [.nilFunc], 8, 0, false, none⟩),
  (145, ⟨false, 1, 0, [], [.nilFunc], 8, 0, false, none⟩),
  (146, ⟨false, 1, 0, [], [.nilFunc], 8, 0, false, none⟩),
  (147, ⟨false, 1, 0, [], [.nilFunc], 8, 0, false, none⟩),
  (148, ⟨false, 1, 0, [], [.nilFunc], 8, 0, false, none⟩),
  (149, ⟨false, 1, 0, [], [.nilFunc], 8, 0, false, none⟩),
  (150, ⟨false, 1, 0, [], [.nilFunc], 8, 0, false, none⟩),
  (151, ⟨false, 1, 0, [], [.nilFunc], 8, 0, false, none⟩),
  (152, ⟨false, 1, 0, [], [.nilFunc], 8, 0, false, none⟩),
  (153, ⟨false, 1, 0, [], [.nilFunc], 8, 0, false, none⟩),
  (154, ⟨false, 1, 0, [], [.nilFunc], 8, 0, false, none⟩),
  (156, ⟨false, 1, 0, [], [.nilFunc], 8, 0, false, none⟩),
  (157, ⟨false, 1, 0, [], [.nilFunc], 8, 0, false, none⟩),
  (158, ⟨false, 1, 0, [], [.nilFunc], 8, 0, false, none⟩),
  (159, ⟨false, 1, 0, [], [.nilFunc], 8, 0, false, none⟩),
  (160, ⟨false, 1, 0, [], [.nilFunc], 8, 0, false, none⟩),
  (161, ⟨false, 1, 0, [], [.nilFunc], 8, 0, false, none⟩),
  (163, ⟨false, 1, 0, [], [.nilFunc], 8, 0, false, none⟩),
  (165, ⟨false, 1, 0, [], [.nilFunc], 8, 0, false, none⟩),
  (166, ⟨false, 1, 0, [], [.nilFunc], 8, 0, false, none⟩),
  (167, ⟨false, 1, 0, [], [.nilFunc], 8, 0, false, none⟩),
  (168, ⟨false, 1, 0, [], [.nilFunc], 8, 0, false, none⟩),
  (169, ⟨false, 1, 0, [], [.nilFunc], 8, 0, false, none⟩),
  (170, ⟨false, 1, 0, [], [.nilFunc], 8, 0, false, none⟩),
  (172, ⟨false, 1, 0, [], [.nilFunc], 8, 0, false, none⟩),
  (173, ⟨false, 1, 0, [], [.nilFunc], 8, 0, false, none⟩),
  (174, ⟨false, 1, 0, [], [.nilFunc], 8, 0, false, none⟩),
  (176, ⟨false, 1, 0, [], [.nilFunc], 8, 0, false, none⟩),
  (177, ⟨false, 1, 0, [], [.nilFunc], 8, 0, false, none⟩),
  (178, ⟨false, 1, 0, [], [.nilFunc], 8, 0, false, none⟩),
  (179, ⟨false, 1, 0, [], [.nilFunc], 8, 0, false, none⟩),
  (180, ⟨false, 1, 0, [], [.nilFunc], 8, 0, false, none⟩),
  (181, ⟨false, 1, 0, [], [.nilFunc], 8, 0, false, none⟩),
  (182, ⟨false, 1, 0, [], [.nilFunc], 8, 0, false, none⟩),
  (183, ⟨false, 1, 0, [], [.nilFunc], 8, 0, false, none⟩),
  (184, ⟨false, 1, 0, [], [.nilFunc], 8, 0, false, none⟩),
  (185, ⟨false, 1, 0, [], [.nilFunc], 8, 0, false, none⟩),
  (186, ⟨false, 1, 0, [], [.nilFunc], 8, 0, false, none⟩),
  (187, ⟨false, 1, 0, [], [.nilFunc], 8, 0, false, none⟩),
  (188, ⟨false, 1, 0, [], [(.pointer none)], 8, 0, false, none⟩),
  (189, ⟨false, 1, 0, [], [.nilFunc], 8, 0, false, none⟩),
  (191, ⟨false, 1, 0, [], [.nilFunc], 8, 0, false, none⟩),
  (192, ⟨false, 1, 0, [], [.nilFunc], 8, 0, false, none⟩),
  (193, ⟨false, 1, 0, [], [.nilFunc], 8, 0, false, none⟩),
  (194, ⟨false, 1, 0, [], [(.pointer none)], 8, 0, false, none⟩),
  (196, ⟨false, 1, 0, [], [.nilFunc], 8, 0, false, none⟩),
  (198, ⟨false, 1, 0, [], [.nilFunc], 8, 0, false, none⟩),
  (199, ⟨false, 1, 0, [], [.nilFunc], 8, 0, false, none⟩),
  (200, ⟨false, 1, 82, [], [(.slice none 0 0)], 24, 0, true, none⟩),
  (201, ⟨false, 1, 0, [], [.nilFunc], 8, 0, false, none⟩),
  (202, ⟨false, 1, 0, [], [.nilFunc], 8, 0, false, none⟩),
  (203, ⟨false, 1, 0, [], [.nilFunc], 8, 0, false, none⟩),
  (204, ⟨false, 1, 0, [], [.nilFunc], 8, 0, false, none⟩),
  (205, ⟨false, 1, 0, [], [.nilFunc], 8, 0, false, none⟩),
  (206, ⟨false, 1, 0, [], [.nilFunc], 8, 0, false, none⟩),
  (207, ⟨false, 1, 0, [], [.nilFunc], 8, 0, false, none⟩),
  (208, ⟨false, 1, 0, [], [.nilFunc], 8, 0, false, none⟩),
  (209, ⟨false, 1, 0, [], [(.pointer none)], 8, 0, false, none⟩),
  (210, ⟨false, 1, 0, [], [.nilFunc], 8, 0, false, none⟩),
  (211, ⟨false, 1, 0, [], [.nilFunc], 8, 0, false, none⟩),
  (212, ⟨false, 1, 0, [], [.nilFunc], 8, 0, false, none⟩),
  (213, ⟨false, 1, 0, [], [.nilFunc], 8, 0, false, none⟩),
  (215, ⟨false, 1, 0, [], [.nilFunc], 8, 0, false, none⟩),
  (216, ⟨false, 1, 0, [], [.nilFunc], 8, 0, false, none⟩),
  (218, ⟨false, 1, 0, [], [.nilFunc], 8, 0, false, none⟩),
  (219, ⟨false, 1, 0, [], [.nilFunc], 8, 0, false, none⟩),
  (220, ⟨false, 1, 0, [], [.nilFunc], 8, 0, false, none⟩),
  (221, ⟨false, 1, 0, [], [.nilFunc], 8, 0, false, none⟩),
  (222, ⟨false, 1, 0, [], [.nilFunc], 8, 0, false, none⟩),
  (223, ⟨false, 1, 0, [], [.nilFunc], 8, 0, false, none⟩),
  (224, ⟨false, 1, 0, [], [.nilFunc], 8, 0, false, none⟩),
  (225, ⟨false, 1, 0, [], [.nilFunc], 8, 0, false, none⟩),
  (226, ⟨false, 1, 0, [], [.nilFunc], 8, 0, false, none⟩),
  (227, ⟨false, 1, 0, [], [.nilFunc], 8, 0, false, none⟩),
  (228, ⟨false, 1, 0, [], [.nilFunc], 8, 0, false, none⟩),
  (229, ⟨false, 1, 0, [], [.nilFunc], 8, 0, false, none⟩),
  (230, ⟨false, 1, 0, [], [.nilFunc], 8, 0, false, none⟩),
  (231, ⟨false, 1, 0, [], [.nilFunc], 8, 0, false, none⟩),
  (232, ⟨false, 1, 0, [], [.nilFunc], 8, 0, false, none⟩),
  (233, ⟨false, 1, 0, [], [.nilFunc], 8, 0, false, none⟩),
  (234, ⟨false, 1, 0, [], [.nilFunc], 8, 0, false, none⟩),
  (235, ⟨false, 1, 0, [], [(.pointer none)], 8, 0, false, none⟩),
  (236, ⟨false, 1, 0, [], [.nilFunc], 8, 0, false, none⟩),
  (237, ⟨false, 1, 0, [], [.nilFunc], 8, 0, false, none⟩),
  (238, ⟨false, 1, 0, [], [.nilFunc], 8, 0, false, none⟩),
  (240, ⟨false, 1, 0, [], [.nilFunc], 8, 0, false, none⟩),
  (241, ⟨false, 1, 0, [], [.nilFunc], 8, 0, false, none⟩),
  (242, ⟨false, 1, 0, [], [.nilFunc], 8, 0, false, none⟩),
  (243, ⟨true, 4, 0, [(0, 1, false), (1, 1, false), (2, 1, false), (3, 1, false)], [(.pointer none), (.pointer none), (.pointer none), (.string .empty)], 40, 0, false, none⟩),
  (244, ⟨true, 4, 0, [(0, 1, false), (1, 1, false), (2, 1, false), (3, 1, false)], [(.pointer none), (.pointer none), (.pointer none), (.string .empty)], 40, 0, false, none⟩),
  (248, ⟨false, 1, 0, [], [(.int .u32 0)], 4, 0, false, some .u32⟩),
  (249, ⟨false, 1, 0, [], [(.int .u8 0)], 1, 0, false, some .u8⟩),
  (250, ⟨false, 1, 0, [], [(.int .u8 0)], 1, 0, false, some .u8⟩),
  (251, ⟨false, 1, 0, [], [.nilFunc], 8, 0, false, none⟩),
  (252, ⟨false, 1, 0, [], [(.pointer none)], 8, 0, false, none⟩),
  (253, ⟨false, 1, 0, [], [(.int .i32 0)], 4, 0, false, some .i32⟩),
  (254, ⟨false, 1, 0, [], [(.int .i32 0)], 4, 0, false, some .i32⟩),
  (255, ⟨true, 11, 0, [(0, 1, false), (1, 1, false), (2, 1, false), (3, 1, false), (4, 1, false), (5, 1, false), (6, 1, false), (7, 1, false), (8, 1, false), (9, 1, false), (10, 1, false)], [(.int .u64 0), (.int .u64 0), (.int .u32 0), (.int .u8 0), (.int .u8 0), (.int .u8 0), (.int .u8 0), .nilFunc, (.pointer none), (.int .i32 0), (.int .i32 0)], 48, 0, false, none⟩),
  (256, ⟨true, 11, 0, [(0, 1, false), (1, 1, false), (2, 1, false), (3, 1, false), (4, 1, false), (5, 1, false), (6, 1, false), (7, 1, false), (8, 1, false), (9, 1, false), (10, 1, false)], [(.int .u64 0), (.int .u64 0), (.int .u32 0), (.int .u8 0), (.int .u8 0), (.int .u8 0), (.int .u8 0), .nilFunc, (.pointer none), (.int .i32 0), (.int .i32 0)], 48, 0, false, none⟩)]
def tab (t : Nat) : TI := tabOf tabL t
theorem tabs : tab 1 = ⟨false, 1, 0, [], [.nilFunc], 8, 0, false, none⟩ ∧
  tab 2 = ⟨false, 1, 0, [], [(.int .i64 0)], 8, 0, false, some .i64⟩ ∧
  tab 3 = ⟨false, 1, 0, [], [(.int .i64 0)], 8, 0, false, some .i64⟩ ∧
  tab 4 = ⟨false, 1, 0, [], [(.bool false)], 1, 1, false, none⟩ ∧
  tab 5 = ⟨false, 1, 0, [], [(.int .u8 0)], 1, 0, false, some .u8⟩ ∧
  tab 6 = ⟨false, 1, 0, [], [(.int .u8 0)], 1, 0, false, some .u8⟩ ∧
  tab 7 = ⟨true, 4, 0, [(0, 1, false), (1, 1, false), (2, 1, false), (3, 1, false)], [(.int .i64 0), (.int .i64 0), (.bool false), (.int .u8 0)], 24, 0, false, none⟩ ∧
  tab 8 = ⟨true, 4, 0, [(0, 1, false), (1, 1, false), (2, 1, false), (3, 1, false)], [(.int .i64 0), (.int .i64 0), (.bool false), (.int .u8 0)], 24, 0, false, none⟩ ∧
  tab 9 = ⟨false, 1, 0, [], [(.string .empty)], 16, 2, false, none⟩ ∧
  tab 10 = ⟨false, 1, 0, [], [(.string .empty)], 16, 2, false, none⟩ ∧
  tab 11 = ⟨false, 1, 0, [], [(.string .empty)], 16, 2, false, none⟩ ∧
  tab 12 = ⟨false, 1, 0, [], [(.int .u64 0)], 8, 0, false, some .u64⟩ ∧
  tab 13 = ⟨true, 2, 0, [(0, 1, false), (1, 1, false)], [(.string .empty), (.int .u64 0)], 24, 0, false, none⟩ ∧
  tab 14 = ⟨true, 2, 0, [(0, 1, false), (1, 1, false)], [(.string .empty), (.int .u64 0)], 24, 0, false, none⟩ ∧
  tab 15 = ⟨false, 1, 0, [], [(.pointer none)], 8, 0, false, none⟩ ∧
  tab 16 = ⟨false, 1, 0, [], [(.pointer none)], 8, 0, false, none⟩ ∧
  tab 17 = ⟨false, 1, 0, [], [(.pointer none)], 8, 0, false, none⟩ ∧
  tab 18 = ⟨true, 1, 0, [(0, 1, false)], [(.pointer none)], 8, 0, false, none⟩ ∧
  tab 19 = ⟨true, 1, 0, [(0, 1, false)], [(.pointer none)], 8, 0, false, none⟩ ∧
  tab 21 = ⟨false, 1, 0, [], [(.int .i32 0)], 4, 0, false, some .i32⟩ ∧
  tab 22 = ⟨false, 1, 29, [], [(.slice none 0 0)], 24, 0, true, none⟩ ∧
  tab 23 = ⟨true, 1, 0, [(0, 1, false)], [(.slice none 0 0)], 24, 0, true, none⟩ ∧
  tab 24 = ⟨true, 1, 0, [(0, 1, false)], [(.slice none 0 0)], 24, 0, true, none⟩ ∧
  tab 25 = ⟨true, 4, 0, [(0, 1, false), (1, 1, false), (2, 1, false), (3, 1, false)], [(.int .i64 0), (.int .i64 0), (.int .i64 0), (.int .i64 0)], 32, 0, false, none⟩ ∧
  tab 26 = ⟨true, 4, 0, [(0, 1, false), (1, 1, false), (2, 1, false), (3, 1, false)], [(.int .i64 0), (.int .i64 0), (.int .i64 0), (.int .i64 0)], 32, 0, false, none⟩ ∧
  tab 27 = ⟨true, 7, 0, [(0, 1, true), (1, 4, true), (5, 1, false), (6, 1, false)], [(.slice none 0 0), (.int .i64 0), (.int .i64 0), (.int .i64 0), (.int .i64 0), (.int .i64 0), (.int .i64 0)], 72, 0, true, none⟩ ∧
  tab 28 = ⟨true, 7, 0, [(0, 1, true), (1, 4, true), (5, 1, false), (6, 1, false)], [(.slice none 0 0), (.int .i64 0), (.int .i64 0), (.int .i64 0), (.int .i64 0), (.int .i64 0), (.int .i64 0)], 72, 0, true, none⟩ ∧
  tab 29 = ⟨false, 1, 5, [], [(.slice none 0 0)], 24, 0, true, none⟩ ∧
  tab 30 = ⟨false, 1, 0, [], [.nilFunc], 8, 0, false, none⟩ ∧
  tab 31 = ⟨true, 1, 0, [(0, 1, false)], [(.slice none 0 0)], 24, 0, true, none⟩ ∧
  tab 32 = ⟨true, 4, 0, [(0, 1, false), (1, 1, false), (2, 1, false), (3, 1, false)], [(.int .i64 0), (.int .i64 0), (.int .i64 0), (.int .i64 0)], 32, 0, false, none⟩ ∧
  tab 33 = ⟨true, 7, 0, [(0, 1, true), (1, 4, true), (5, 1, false), (6, 1, false)], [(.slice none 0 0), (.int .i64 0), (.int .i64 0), (.int .i64 0), (.int .i64 0), (.int .i64 0), (.int .i64 0)], 72, 0, true, none⟩ ∧
  tab 34 = ⟨true, 7, 0, [(0, 1, true), (1, 4, true), (5, 1, false), (6, 1, false)], [(.slice none 0 0), (.int .i64 0), (.int .i64 0), (.int .i64 0), (.int .i64 0), (.int .i64 0), (.int .i64 0)], 72, 0, true, none⟩ ∧
  tab 36 = ⟨false, 1, 0, [], [.nilFunc], 8, 0, false, none⟩ ∧
  tab 37 = ⟨false, 1, 0, [], [.nilFunc], 8, 0, false, none⟩ ∧
  tab 38 = ⟨false, 1, 0, [], [.nilFunc], 8, 0, false, none⟩ ∧
  tab 39 = ⟨false, 1, 0, [], [.nilFunc], 8, 0, false, none⟩ ∧
  tab 40 = ⟨false, 1, 0, [], [.nilFunc], 8, 0, false, none⟩ ∧
  tab 41 = ⟨false, 1, 0, [], [.nilFunc], 8, 0, false, none⟩ ∧
  tab 42 = ⟨false, 1, 0, [], [.nilFunc], 8, 0, false, none⟩ ∧
  tab 43 = ⟨false, 1, 0, [], [.nilFunc], 8, 0, false, none⟩ ∧
  tab 44 = ⟨true, 3, 0, [(0, 1, false), (1, 1, false), (2, 1, false)], [(.int .i64 0), (.int .i64 0), (.slice none 0 0)], 40, 0, true, none⟩ ∧
  tab 45 = ⟨true, 3, 0, [(0, 1, false), (1, 1, false), (2, 1, false)], [(.int .i64 0), (.int .i64 0), (.slice none 0 0)], 40, 0, true, none⟩ ∧
  tab 46 = ⟨false, 1, 0, [], [.nilFunc], 8, 0, false, none⟩ ∧
  tab 48 = ⟨false, 1, 0, [], [.nilFunc], 8, 0, false, none⟩ ∧
  tab 49 = ⟨true, 3, 0, [(0, 1, false), (1, 1, false), (2, 1, false)], [(.int .i64 0), (.int .i64 0), (.slice none 0 0)], 40, 0, true, none⟩ ∧
  tab 50 = ⟨false, 1, 0, [], [.nilFunc], 8, 0, false, none⟩ ∧
  tab 51 = ⟨false, 1, 0, [], [.nilFunc], 8, 0, false, none⟩ ∧
  tab 52 = ⟨false, 1, 0, [], [.nilFunc], 8, 0, false, none⟩ ∧
  tab 53 = ⟨false, 1, 0, [], [.nilFunc], 8, 0, false, none⟩ ∧
  tab 54 = ⟨false, 1, 45, [], [(.slice none 0 0)], 24, 0, true, none⟩ ∧
  tab 55 = ⟨false, 1, 0, [], [.nilFunc], 8, 0, false, none⟩ ∧
  tab 57 = ⟨false, 1, 0, [], [.nilFunc], 8, 0, false, none⟩ ∧
  tab 58 = ⟨false, 1, 49, [], [(.slice none 0 0)], 24, 0, true, none⟩ ∧
  tab 59 = ⟨false, 1, 0, [], [.nilFunc], 8, 0, false, none⟩ ∧
  tab 60 = ⟨false, 1, 0, [], [.nilFunc], 8, 0, false, none⟩ ∧
  tab 61 = ⟨false, 1, 0, [], [.nilFunc], 8, 0, false, none⟩ ∧
  tab 62 = ⟨false, 1, 0, [], [.nilFunc], 8, 0, false, none⟩ ∧
  tab 63 = ⟨false, 1, 3, [], [(.slice none 0 0)], 24, 0, true, none⟩ ∧
  tab 64 = ⟨true, 7, 0, [(0, 1, true), (1, 4, true), (5, 1, false), (6, 1, false)], [(.slice none 0 0), (.int .i64 0), (.int .i64 0), (.int .i64 0), (.int .i64 0), (.int .i64 0), (.slice none 0 0)], 88, 0, true, none⟩ ∧
  tab 65 = ⟨true, 7, 0, [(0, 1, true), (1, 4, true), (5, 1, false), (6, 1, false)], [(.slice none 0 0), (.int .i64 0), (.int .i64 0), (.int .i64 0), (.int .i64 0), (.int .i64 0), (.slice none 0 0)], 88, 0, true, none⟩ ∧
  tab 66 = ⟨true, 2, 0, [(0, 1, false), (1, 1, false)], [(.int .i64 0), (.int .i64 0)], 16, 0, false, none⟩ ∧
  tab 67 = ⟨true, 2, 0, [(0, 1, false), (1, 1, false)], [(.int .i64 0), (.int .i64 0)], 16, 0, false, none⟩ ∧
  tab 68 = ⟨false, 1, 0, [], [.nilFunc], 8, 0, false, none⟩ ∧
  tab 69 = ⟨true, 7, 0, [(0, 1, true), (1, 4, true), (5, 1, false), (6, 1, false)], [(.slice none 0 0), (.int .i64 0), (.int .i64 0), (.int .i64 0), (.int .i64 0), (.int .i64 0), (.slice none 0 0)], 88, 0, true, none⟩ ∧
  tab 70 = ⟨true, 7, 0, [(0, 1, true), (1, 4, true), (5, 1, false), (6, 1, false)], [(.slice none 0 0), (.int .i64 0), (.int .i64 0), (.int .i64 0), (.int .i64 0), (.int .i64 0), (.slice none 0 0)], 88, 0, true, none⟩ ∧
  tab 72 = ⟨false, 1, 0, [], [.nilFunc], 8, 0, false, none⟩ ∧
  tab 73 = ⟨false, 1, 0, [], [.nilFunc], 8, 0, false, none⟩ ∧
  tab 74 = ⟨true, 2, 0, [(0, 1, false), (1, 1, false)], [(.int .i64 0), (.int .i64 0)], 16, 0, false, none⟩ ∧
  tab 75 = ⟨false, 1, 0, [], [.nilFunc], 8, 0, false, none⟩ ∧
  tab 76 = ⟨false, 1, 0, [], [.nilFunc], 8, 0, false, none⟩ ∧
  tab 77 = ⟨false, 1, 0, [], [.nilFunc], 8, 0, false, none⟩ ∧
  tab 78 = ⟨false, 1, 0, [], [.nilFunc], 8, 0, false, none⟩ ∧
  tab 79 = ⟨false, 1, 0, [], [.nilFunc], 8, 0, false, none⟩ ∧
  tab 80 = ⟨false, 1, 67, [], [(.slice none 0 0)], 24, 0, true, none⟩ ∧
  tab 81 = ⟨false, 1, 0, [], [.nilFunc], 8, 0, false, none⟩ ∧
  tab 82 = ⟨false, 1, 32, [], [(.slice none 0 0)], 24, 0, true, none⟩ ∧
  tab 84 = ⟨false, 1, 0, [], [.nilFunc], 8, 0, false, none⟩ ∧
  tab 85 = ⟨false, 1, 74, [], [(.slice none 0 0)], 24, 0, true, none⟩ ∧
  tab 86 = ⟨false, 1, 0, [], [.nilFunc], 8, 0, false, none⟩ ∧
  tab 87 = ⟨false, 1, 0, [], [.nilFunc], 8, 0, false, none⟩ ∧
  tab 88 = ⟨false, 1, 0, [], [.nilFunc], 8, 0, false, none⟩ ∧
  tab 89 = ⟨false, 1, 0, [], [.nilFunc], 8, 0, false, none⟩ ∧
  tab 90 = ⟨false, 1, 0, [], [.nilFunc], 8, 0, false, none⟩ ∧
  tab 91 = ⟨false, 1, 0, [], [.nilFunc], 8, 0, false, none⟩ ∧
  tab 92 = ⟨false, 1, 26, [], [(.slice none 0 0)], 24, 0, true, none⟩ ∧
  tab 93 = ⟨true, 1, 0, [(0, 1, false)], [(.slice none 0 0)], 24, 0, true, none⟩ ∧
  tab 94 = ⟨true, 1, 0, [(0, 1, false)], [(.slice none 0 0)], 24, 0, true, none⟩ ∧
  tab 95 = ⟨false, 1, 0, [], [.nilFunc], 8, 0, false, none⟩ ∧
  tab 96 = ⟨false, 1, 0, [], [.nilFunc], 8, 0, false, none⟩ ∧
  tab 97 = ⟨true, 1, 0, [(0, 1, false)], [(.slice none 0 0)], 24, 0, true, none⟩ ∧
  tab 98 = ⟨true, 1, 0, [(0, 1, false)], [(.slice none 0 0)], 24, 0, true, none⟩ ∧
  tab 100 = ⟨false, 1, 0, [], [.nilFunc], 8, 0, false, none⟩ ∧
  tab 101 = ⟨false, 1, 0, [], [.nilFunc], 8, 0, false, none⟩ ∧
  tab 102 = ⟨false, 1, 0, [], [.nilFunc], 8, 0, false, none⟩ ∧
  tab 103 = ⟨false, 1, 0, [], [.nilFunc], 8, 0, false, none⟩ ∧
  tab 104 = ⟨false, 1, 0, [], [.nilFunc], 8, 0, false, none⟩ ∧
  tab 105 = ⟨false, 1, 0, [], [.nilFunc], 8, 0, false, none⟩ ∧
  tab 106 = ⟨false, 1, 0, [], [.nilFunc], 8, 0, false, none⟩ ∧
  tab 107 = ⟨false, 1, 0, [], [.nilFunc], 8, 0, false, none⟩ ∧
  tab 108 = ⟨false, 1, 0, [], [.nilFunc], 8, 0, false, none⟩ ∧
  tab 109 = ⟨false, 1, 0, [], [.nilFunc], 8, 0, false, none⟩ ∧
  tab 110 = ⟨true, 3, 0, [(0, 1, true), (1, 1, false), (2, 1, false)], [(.slice none 0 0), (.slice none 0 0), (.int .i64 0)], 56, 0, true, none⟩ ∧
  tab 111 = ⟨true, 3, 0, [(0, 1, true), (1, 1, false), (2, 1, false)], [(.slice none 0 0), (.slice none 0 0), (.int .i64 0)], 56, 0, true, none⟩ ∧
  tab 112 = ⟨true, 4, 0, [(0, 1, false), (1, 1, false), (2, 1, false), (3, 1, false)], [(.int .i64 0), (.int .i64 0), (.int .i64 0), (.int .i64 0)], 32, 0, false, none⟩ ∧
  tab 113 = ⟨true, 4, 0, [(0, 1, false), (1, 1, false), (2, 1, false), (3, 1, false)], [(.int .i64 0), (.int .i64 0), (.int .i64 0), (.int .i64 0)], 32, 0, false, none⟩ ∧
  tab 114 = ⟨false, 1, 0, [], [.nilFunc], 8, 0, false, none⟩ ∧
  tab 115 = ⟨true, 3, 0, [(0, 1, true), (1, 1, false), (2, 1, false)], [(.slice none 0 0), (.slice none 0 0), (.int .i64 0)], 56, 0, true, none⟩ ∧
  tab 116 = ⟨true, 3, 0, [(0, 1, true), (1, 1, false), (2, 1, false)], [(.slice none 0 0), (.slice none 0 0), (.int .i64 0)], 56, 0, true, none⟩ ∧
  tab 118 = ⟨false, 1, 0, [], [.nilFunc], 8, 0, false, none⟩ ∧
  tab 119 = ⟨false, 1, 0, [], [.nilFunc], 8, 0, false, none⟩ ∧
  tab 120 = ⟨true, 4, 0, [(0, 1, false), (1, 1, false), (2, 1, false), (3, 1, false)], [(.int .i64 0), (.int .i64 0), (.int .i64 0), (.int .i64 0)], 32, 0, false, none⟩ ∧
  tab 121 = ⟨false, 1, 0, [], [.nilFunc], 8, 0, false, none⟩ ∧
  tab 122 = ⟨false, 1, 0, [], [.nilFunc], 8, 0, false, none⟩ ∧
  tab 123 = ⟨false, 1, 0, [], [.nilFunc], 8, 0, false, none⟩ ∧
  tab 124 = ⟨false, 1, 0, [], [.nilFunc], 8, 0, false, none⟩ ∧
  tab 125 = ⟨false, 1, 113, [], [(.slice none 0 0)], 24, 0, true, none⟩ ∧
  tab 126 = ⟨false, 1, 0, [], [.nilFunc], 8, 0, false, none⟩ ∧
  tab 128 = ⟨false, 1, 0, [], [.nilFunc], 8, 0, false, none⟩ ∧
  tab 129 = ⟨false, 1, 120, [], [(.slice none 0 0)], 24, 0, true, none⟩ ∧
  tab 130 = ⟨false, 1, 0, [], [.nilFunc], 8, 0, false, none⟩ ∧
  tab 131 = ⟨false, 1, 0, [], [.nilFunc], 8, 0, false, none⟩ ∧
  tab 132 = ⟨false, 1, 0, [], [.nilFunc], 8, 0, false, none⟩ ∧
  tab 133 = ⟨false, 1, 0, [], [.nilFunc], 8, 0, false, none⟩ ∧
  tab 134 = ⟨false, 1, 0, [], [.nilFunc], 8, 0, false, none⟩ ∧
  tab 135 = ⟨false, 1, 0, [], [.nilFunc], 8, 0, false, none⟩ ∧
  tab 136 = ⟨false, 1, 0, [], [.nilFunc], 8, 0, false, none⟩ ∧
  tab 137 = ⟨false, 1, 0, [], [.nilFunc], 8, 0, false, none⟩ ∧
  tab 138 = ⟨false, 1, 0, [], [.nilFunc], 8, 0, false, none⟩ ∧
  tab 139 = ⟨false, 1, 0, [], [.nilFunc], 8, 0, false, none⟩ ∧
  tab 140 = ⟨false, 1, 0, [], [.nilFunc], 8, 0, false, none⟩ ∧
  tab 141 = ⟨false, 1, 0, [], [.nilFunc], 8, 0, false, none⟩ ∧
  tab 142 = ⟨false, 1, 0, [], [.nilFunc], 8, 0, false, none⟩ ∧
  tab 143 = ⟨false, 1, 0, [], [.nilFunc], 8, 0, false, none⟩ ∧
  tab 144 = ⟨false, 1, 0, [], [.nilFunc], 8, 0, false, none⟩ ∧
  tab 145 = ⟨false, 1, 0, [], [.nilFunc], 8, 0, false, none⟩ ∧
  tab 146 = ⟨false, 1, 0, [], [.nilFunc], 8, 0, false, none⟩ ∧
  tab 147 = ⟨false, 1, 0, [], [.nilFunc], 8, 0, false, none⟩ ∧
  tab 148 = ⟨false, 1, 0, [], [.nilFunc], 8, 0, false, none⟩ ∧
  tab 149 = ⟨false, 1, 0, [], [.nilFunc], 8, 0, false, none⟩ ∧
  tab 150 = ⟨false, 1, 0, [], [.nilFunc], 8, 0, false, none⟩ ∧
  tab 151 = ⟨false, 1, 0, [], [.nilFunc], 8, 0, false, none⟩ ∧
  tab 152 = ⟨false, 1, 0, [], [.nilFunc], 8, 0, false, none⟩ ∧
  tab 153 = ⟨false, 1, 0, [], [.nilFunc], 8, 0, false, none⟩ ∧
  tab 154 = ⟨false, 1, 0, [], [.nilFunc], 8, 0, false, none⟩ ∧
  tab 156 = ⟨false, 1, 0, [], [.nilFunc], 8, 0, false, none⟩ ∧
  tab 157 = ⟨false, 1, 0, [], [.nilFunc], 8, 0, false, none⟩ ∧
  tab 158 = ⟨false, 1, 0, [], [.nilFunc], 8, 0, false, none⟩ ∧
  tab 159 = ⟨false, 1, 0, [], [.nilFunc], 8, 0, false, none⟩ ∧
  tab 160 = ⟨false, 1, 0, [], [.nilFunc], 8, 0, false, none⟩ ∧
  tab 161 = ⟨false, 1, 0, [], [.nilFunc], 8, 0, false, none⟩ ∧
  tab 163 = ⟨false, 1, 0, [], [.nilFunc], 8, 0, false, none⟩ ∧
  tab 165 = ⟨false, 1, 0, [], [.nilFunc], 8, 0, false, none⟩ ∧
  tab 166 = ⟨false, 1, 0, [], [.nilFunc], 8, 0, false, none⟩ ∧
  tab 167 = ⟨false, 1, 0, [], [.nilFunc], 8, 0, false, none⟩ ∧
  tab 168 = ⟨false, 1, 0, [], [.nilFunc], 8, 0, false, none⟩ ∧
  tab 169 = ⟨false, 1, 0, [], [.nilFunc], 8, 0, false, none⟩ ∧
  tab 170 = ⟨false, 1, 0, [], [.nilFunc], 8, 0, false, none⟩ ∧
  tab 172 = ⟨false, 1, 0, [], [.nilFunc], 8, 0, false, none⟩ ∧
  tab 173 = ⟨false, 1, 0, [], [.nilFunc], 8, 0, false, none⟩ ∧
  tab 174 = ⟨false, 1, 0, [], [.nilFunc], 8, 0, false, none⟩ ∧
  tab 176 = ⟨false, 1, 0, [], [.nilFunc], 8, 0, false, none⟩ ∧
  tab 177 = ⟨false, 1, 0, [], [.nilFunc], 8, 0, false, none⟩ ∧
  tab 178 = ⟨false, 1, 0, [], [.nilFunc], 8, 0, false, none⟩ ∧
  tab 179 = ⟨false, 1, 0, [], [.nilFunc], 8, 0, false, none⟩ ∧
  tab 180 = ⟨false, 1, 0, [], [.nilFunc], 8, 0, false, none⟩ ∧
  tab 181 = ⟨false, 1, 0, [], [.nilFunc], 8, 0, false, none⟩ ∧
  tab 182 = ⟨false, 1, 0, [], [.nilFunc], 8, 0, false, none⟩ ∧
  tab 183 = ⟨false, 1, 0, [], [.nilFunc], 8, 0, false, none⟩ ∧
  tab 184 = ⟨false, 1, 0, [], [.nilFunc], 8, 0, false, none⟩ ∧
  tab 185 = ⟨false, 1, 0, [], [.nilFunc], 8, 0, false, none⟩ ∧
  tab 186 = ⟨false, 1, 0, [], [.nilFunc], 8, 0, false, none⟩ ∧
  tab 187 = ⟨false, 1, 0, [], [.nilFunc], 8, 0, false, none⟩ ∧
  tab 188 = ⟨false, 1, 0, [], [(.pointer none)], 8, 0, false, none⟩ ∧
  tab 189 = ⟨false, 1, 0, [], [.nilFunc], 8, 0, false, none⟩ ∧
  tab 191 = ⟨false, 1, 0, [], [.nilFunc], 8, 0, false, none⟩ ∧
  tab 192 = ⟨false, 1, 0, [], [.nilFunc], 8, 0, false, none⟩ ∧
  tab 193 = ⟨false, 1, 0, [], [.nilFunc], 8, 0, false, none⟩ ∧
  tab 194 = ⟨false, 1, 0, [], [(.pointer none)], 8, 0, false, none⟩ ∧
  tab 196 = ⟨false, 1, 0, [], [.nilFunc], 8, 0, false, none⟩ ∧
  tab 198 = ⟨false, 1, 0, [], [.nilFunc], 8, 0, false, none⟩ ∧
  tab 199 = ⟨false, 1, 0, [], [.nilFunc], 8, 0, false, none⟩ ∧
  tab 200 = ⟨false, 1, 82, [], [(.slice none 0 0)], 24, 0, true, none⟩ ∧
  tab 201 = ⟨false, 1, 0, [], [.nilFunc], 8, 0, false, none⟩ ∧
  tab 202 = ⟨false, 1, 0, [], [.nilFunc], 8, 0, false, none⟩ ∧
  tab 203 = ⟨false, 1, 0, [], [.nilFunc], 8, 0, false, none⟩ ∧
  tab 204 = ⟨false, 1, 0, [], [.nilFunc], 8, 0, false, none⟩ ∧
  tab 205 = ⟨false, 1, 0, [], [.nilFunc], 8, 0, false, none⟩ ∧
  tab 206 = ⟨false, 1, 0, [], [.nilFunc], 8, 0, false, none⟩ ∧
  tab 207 = ⟨false, 1, 0, [], [.nilFunc], 8, 0, false, none⟩ ∧
  tab 208 = ⟨false, 1, 0, [], [.nilFunc], 8, 0, false, none⟩ ∧
  tab 209 = ⟨false, 1, 0, [], [(.pointer none)], 8, 0, false, none⟩ ∧
  tab 210 = ⟨false, 1, 0, [], [.nilFunc], 8, 0, false, none⟩ ∧
  tab 211 = ⟨false, 1, 0, [], [.nilFunc], 8, 0, false, none⟩ ∧
  tab 212 = ⟨false, 1, 0, [], [.nilFunc], 8, 0, false, none⟩ ∧
  tab 213 = ⟨false, 1, 0, [], [.nilFunc], 8, 0, false, none⟩ ∧
  tab 215 = ⟨false, 1, 0, [], [.nilFunc], 8, 0, false, none⟩ ∧
  tab 216 = ⟨false, 1, 0, [], [.nilFunc], 8, 0, false, none⟩ ∧
  tab 218 = ⟨false, 1, 0, [], [.nilFunc], 8, 0, false, none⟩ ∧
  tab 219 = ⟨false, 1, 0, [], [.nilFunc], 8, 0, false, none⟩ ∧
  tab 220 = ⟨false, 1, 0, [], [.nilFunc], 8, 0, false, none⟩ ∧
  tab 221 = ⟨false, 1, 0, [], [.nilFunc], 8, 0, false, none⟩ ∧
  tab 222 = ⟨false, 1, 0, [], [.nilFunc], 8, 0, false, none⟩ ∧
  tab 223 = ⟨false, 1, 0, [], [.nilFunc], 8, 0, false, none⟩ ∧
  tab 224 = ⟨false, 1, 0, [], [.nilFunc], 8, 0, false, none⟩ ∧
  tab 225 = ⟨false, 1, 0, [], [.nilFunc], 8, 0, false, none⟩ ∧
  tab 226 = ⟨false, 1, 0, [], [.nilFunc], 8, 0, false, none⟩ ∧
  tab 227 = ⟨false, 1, 0, [], [.nilFunc], 8, 0, false, none⟩ ∧
  tab 228 = ⟨false, 1, 0, [], [.nilFunc], 8, 0, false, none⟩ ∧
  tab 229 = ⟨false, 1, 0, [], [.nilFunc], 8, 0, false, none⟩ ∧
  tab 230 = ⟨false, 1, 0, [], [.nilFunc], 8, 0, false, none⟩ ∧
  tab 231 = ⟨false, 1, 0, [], [.nilFunc], 8, 0, false, none⟩ ∧
  tab 232 = ⟨false, 1, 0, [], [.nilFunc], 8, 0, false, none⟩ ∧
  tab 233 = ⟨false, 1, 0, [], [.nilFunc], 8, 0, false, none⟩ ∧
  tab 234 = ⟨false, 1, 0, [], [.nilFunc], 8, 0, false, none⟩ ∧
  tab 235 = ⟨false, 1, 0, [], [(.pointer none)], 8, 0, false, none⟩ ∧
  tab 236 = ⟨false, 1, 0, [], [.nilFunc], 8, 0, false, none⟩ ∧
  tab 237 = ⟨false, 1, 0, [], [.nilFunc], 8, 0, false, none⟩ ∧
  tab 238 = ⟨false, 1, 0, [], [.nilFunc], 8, 0, false, none⟩ ∧
  tab 240 = ⟨false, 1, 0, [], [.nilFunc], 8, 0, false, none⟩ ∧
  tab 241 = ⟨false, 1, 0, [], [.nilFunc], 8, 0, false, none⟩ ∧
  tab 242 = ⟨false, 1, 0, [], [.nilFunc], 8, 0, false, none⟩ ∧
  tab 243 = ⟨true, 4, 0, [(0, 1, false), (1, 1, false), (2, 1, false), (3, 1, false)], [(.pointer none), (.pointer none), (.pointer none), (.string .empty)], 40, 0, false, none⟩ ∧
  tab 244 = ⟨true, 4, 0, [(0, 1, false), (1, 1, false), (2, 1, false), (3, 1, false)], [(.pointer none), (.pointer none), (.pointer none), (.string .empty)], 40, 0, false, none⟩ ∧
  tab 248 = ⟨false, 1, 0, [], [(.int .u32 0)], 4, 0, false, some .u32⟩ ∧
  tab 249 = ⟨false, 1, 0, [], [(.int .u8 0)], 1, 0, false, some .u8⟩ ∧
  tab 250 = ⟨false, 1, 0, [], [(.int .u8 0)], 1, 0, false, some .u8⟩ ∧
  tab 251 = ⟨false, 1, 0, [], [.nilFunc], 8, 0, false, none⟩ ∧
  tab 252 = ⟨false, 1, 0, [], [(.pointer none)], 8, 0, false, none⟩ ∧
  tab 253 = ⟨false, 1, 0, [], [(.int .i32 0)], 4, 0, false, some .i32⟩ ∧
  tab 254 = ⟨false, 1, 0, [], [(.int .i32 0)], 4, 0, false, some .i32⟩ ∧
  tab 255 = ⟨true, 11, 0, [(0, 1, false), (1, 1, false), (2, 1, false), (3, 1, false), (4, 1, false), (5, 1, false), (6, 1, false), (7, 1, false), (8, 1, false), (9, 1, false), (10, 1, false)], [(.int .u64 0), (.int .u64 0), (.int .u32 0), (.int .u8 0), (.int .u8 0), (.int .u8 0), (.int .u8 0), .nilFunc, (.pointer none), (.int .i32 0), (.int .i32 0)], 48, 0, false, none⟩ ∧
  tab 256 = ⟨true, 11, 0, [(0, 1, false), (1, 1, false), (2, 1, false), (3, 1, false), (4, 1, false), (5, 1, false), (6, 1, false), (7, 1, false), (8, 1, false), (9, 1, false), (10, 1, false)], [(.int .u64 0), (.int .u64 0), (.int .u32 0), (.int .u8 0), (.int .u8 0), (.int .u8 0), (.int .u8 0), .nilFunc, (.pointer none), (.int .i32 0), (.int .i32 0)], 48, 0, false, none⟩ := by
  refine ⟨?_, ?_, ?_, ?_, ?_, ?_, ?_, ?_, ?_, ?_, ?_, ?_, ?_, ?_, ?_, ?_, ?_, ?_, ?_, ?_, ?_, ?_, ?_, ?_, ?_, ?_, ?_, ?_, ?_, ?_, ?_, ?_, ?_, ?_, ?_, ?_, ?_, ?_, ?_, ?_, ?_, ?_, ?_, ?_, ?_, ?_, ?_, ?_, ?_, ?_, ?_, ?_, ?_, ?_, ?_, ?_, ?_, ?_, ?_, ?_, ?_, ?_, ?_, ?_, ?_, ?_, ?_, ?_, ?_, ?_, ?_, ?_, ?_, ?_, ?_, ?_, ?_, ?_, ?_, ?_, ?_, ?_, ?_, ?_, ?_, ?_, ?_, ?_, ?_, ?_, ?_, ?_, ?_, ?_, ?_, ?_, ?_, ?_, ?_, ?_, ?_, ?_, ?_, ?_, ?_, ?_, ?_, ?_, ?_, ?_, ?_, ?_, ?_, ?_, ?_, ?_, ?_, ?_, ?_, ?_, ?_, ?_, ?_, ?_, ?_, ?_, ?_, ?_, ?_, ?_, ?_, ?_, ?_, ?_, ?_, ?_, ?_, ?_, ?_, ?_, ?_, ?_, ?_, ?_, ?_, ?_, ?_, ?_, ?_, ?_, ?_, ?_, ?_, ?_, ?_, ?_, ?_, ?_, ?_, ?_, ?_, ?_, ?_, ?_, ?_, ?_, ?_, ?_, ?_, ?_, ?_, ?_, ?_, ?_, ?_, ?_, ?_, ?_, ?_, ?_, ?_, ?_, ?_, ?_, ?_, ?_, ?_, ?_, ?_, ?_, ?_, ?_, ?_, ?_, ?_, ?_, ?_, ?_, ?_, ?_, ?_, ?_, ?_, ?_, ?_, ?_, ?_, ?_, ?_, ?_, ?_, ?_, ?_, ?_, ?_, ?_, ?_, ?_, ?_, ?_, ?_, ?_, ?_, ?_, ?_, ?_, ?_, ?_, ?_, ?_, ?_, ?_, ?_⟩ <;> rfl
theorem tabOK : TabOK Try.prog tab := tabOf_ok (l := tabL) (by
  refine ⟨?_, ?_, ?_, ?_, ?_, ?_, ?_, ?_, ?_, ?_, ?_, ?_, ?_, ?_, ?_, ?_, ?_, ?_, ?_, ?_, ?_, ?_, ?_, ?_, ?_, ?_, ?_, ?_, ?_, ?_, ?_, ?_, ?_, ?_, ?_, ?_, ?_, ?_, ?_, ?_, ?_, ?_, ?_, ?_, ?_, ?_, ?_, ?_, ?_, ?_, ?_, ?_, ?_, ?_, ?_, ?_, ?_, ?_, ?_, ?_, ?_, ?_, ?_, ?_, ?_, ?_, ?_, ?_, ?_, ?_, ?_, ?_, ?_, ?_, ?_, ?_, ?_, ?_, ?_, ?_, ?_, ?_, ?_, ?_, ?_, ?_, ?_, ?_, ?_, ?_, ?_, ?_, ?_, ?_, ?_, ?_, ?_, ?_, ?_, ?_, ?_, ?_, ?_, ?_, ?_, ?_, ?_, ?_, ?_, ?_, ?_, ?_, ?_, ?_, ?_, ?_, ?_, ?_, ?_, ?_, ?_, ?_, ?_, ?_, ?_, ?_, ?_, ?_, ?_, ?_, ?_, ?_, ?_, ?_, ?_, ?_, ?_, ?_, ?_, ?_, ?_, ?_, ?_, ?_, ?_, ?_, ?_, ?_, ?_, ?_, ?_, ?_, ?_, ?_, ?_, ?_, ?_, ?_, ?_, ?_, ?_, ?_, ?_, ?_, ?_, ?_, ?_, ?_, ?_, ?_, ?_, ?_, ?_, ?_, ?_, ?_, ?_, ?_, ?_, ?_, ?_, ?_, ?_, ?_, ?_, ?_, ?_, ?_, ?_, ?_, ?_, ?_, ?_, ?_, ?_, ?_, ?_, ?_, ?_, ?_, ?_, ?_, ?_, ?_, ?_, ?_, ?_, ?_, ?_, ?_, ?_, ?_, ?_, ?_, ?_, ?_, ?_, ?_, ?_, ?_, ?_, ?_, ?_, ?_, ?_, ?_, ?_, ?_, ?_, ?_, ?_, ?_, ?_, trivial⟩ <;> refine tiok_of ?_ ?_ ?_ ?_ ?_ ?_ ?_ ?_ <;> kernel_rfl)
end Go.Ev
namespace Go.Ev
open Go Go.RowKit Go.Proofs

theorem mo : Try.prog.follows .mixedOrders = true := by kernel_rfl

/-- The seat's program, so many temporaries. -/
noncomputable def En (n : Nat) (k : Nat := 0) : Env := ⟨Try.prog, tab, n, tabOK, mo, k⟩
theorem En_k0 (n k : Nat) : (En n k).k0 = k := rfl
theorem En_tab (n k : Nat) : (En n k).tab = tab := rfl
theorem En_nt (n k : Nat) : (En n k).nt = n := rfl
theorem En_P (n k : Nat) : (En n k).P = Try.prog := rfl

theorem getD0 {α : Type} (x : α) (l : List α) (d : α) : (x :: l).getD 0 d = x := rfl
theorem getD1 {α : Type} (x : α) (l : List α) (n : Nat) (d : α) : (x :: l).getD (n + 1) d = l.getD n d := rfl

theorem wN {E : Env} {ops : Array Oper} {o : Oper} {T : Nat → V} (h : o.guard = none := by rfl) : WantOK E.nt ops o T true := want_none h
theorem wG {E : Env} {ops : Array Oper} {o : Oper} {T : Nat → V} {j d : Nat} {w t y : Bool} (hg : o.guard = some (j, w) := by rfl) (hd : dstOf ops j = some d := by rfl) (hn : d < E.nt := by first | decide | (simp only [En_nt]; decide)) (ht : T d = .val (.bool t) := by simp only [lookT, Nat.reduceEqDiff, ↓reduceIte]; rfl) (hy : y = (t == w) := by rfl) : WantOK E.nt ops o T y := want_some hg hd hn ht hy
theorem wU {E : Env} {ops : Array Oper} {o : Oper} {T : Nat → V} {j d : Nat} {w y : Bool} (hg : o.guard = some (j, w) := by rfl) (hd : dstOf ops j = some d := by rfl) (hn : d < E.nt := by first | decide | (simp only [En_nt]; decide)) (ht : T d = .val undef := by simp only [lookT, Nat.reduceEqDiff, ↓reduceIte]) (hy : y = false := by rfl) : WantOK E.nt ops o T y := want_undef hg hd hn ht hy
theorem mb {p : Prop} (h : p := by simp only [Nat.reduceAdd, Nat.reduceMul]; rfl) : p := h
theorem ma {p : Prop} (h : p := by
      simp only [En_tab, En_nt, act, lookO, lookT, Nat.reduceEqDiff, Nat.reduceLT, ↓reduceIte, tabs, grd, Option.map_some, loadV, storeV, getP, lookR, getD0, getD1, V.cells, List.drop_zero, List.drop_succ_cons, List.take_zero, List.take_succ_cons, List.take_nil, List.drop_nil, cellsAt, cellAt, ofCells, Nat.reduceAdd, Nat.zero_add, bop, binV, unV, pickV, checkV, extractV, convV, cloV, callV, lenV, goInt, cut, eq_self,
        appendV, growV, capV, sliceNV, elsOf, srcK, wrOf, append0V, Option.some_or, Option.none_or, Option.or_none, eqNilV, nilRes, copyV, maxV, buildSliceV, cellsOf, absCell, absCond, absName, andL, List.map_cons, List.map_nil, boxV, allocV, buildV, putParts, putCells, fieldAddrV, fieldV, indexAddrV, sliceV, bndV, makeV, setP, List.set_cons_zero, List.set_cons_succ, List.getElem?_cons_zero, List.getElem?_cons_succ, Option.map_none, List.cons_append, List.nil_append, List.flatten_cons, List.flatten_nil, List.append_nil, List.filterMap_cons, List.filterMap_nil, slT,
        List.all_cons, List.all_nil, oneV, Value.oneCell', Bool.and_true, Bool.and_self, Bool.true_and, List.length_cons, List.length_nil, List.length_map, true_and, and_true, ne_eq, not_false_eq_true, Nat.reduceLeDiff, Int.toNat_natCast, Nat.lt_add_one, Nat.zero_lt_succ, reduceCtorEq, implies_true] <;>
      rfl) : p := h
theorem mc {p : Prop} (h : p := by first | exact True.intro | rfl | (refine ⟨?_, ?_⟩ <;> first | exact True.intro | rfl | decide | (refine ⟨?_, ?_⟩ <;> first | exact True.intro | rfl | decide)) | decide | (simp [List.range_succ] <;> fail)) : p := h
theorem mB {p : Prop} (h : p := by simp only [List.size_toArray, List.length_cons, List.length_nil, Nat.reduceAdd, Nat.reduceMul]; rfl) : p := h
theorem mT {p : Prop} (h : p := by simp only [putT]; rfl) : p := h
theorem mR {p : Prop} (h : p := by simp only [applyW, dropR, lookR, Nat.reduceEqDiff, ↓reduceIte]; rfl) : p := h

theorem ml {p : Prop} (h : p := by simp only [En_nt, lookO, lookT, Nat.reduceEqDiff, Nat.reduceLT, ↓reduceIte]; rfl) : p := h
theorem mS {p : Prop} (h : p := by simp only [En_tab, slT, tabs]; decide) : p := h
theorem mx {p : Prop} (h : p := by simp only [calleeOf, En_nt, lookO, lookT, Nat.reduceEqDiff, Nat.reduceLT, ↓reduceIte, List.map_cons, List.map_nil, List.isEmpty_toArray, List.isEmpty_nil, and_self] <;> rfl) : p := h
theorem mv {p : Prop} (h : p := by simp only [shV, shA, shC, List.map_cons, List.map_nil, noN, noN0, ↓reduceIte, Nat.reduceAdd]; rfl) : p := h
theorem mN {p : Prop} (h : p := by simp only [newsL, applyW, dropR, lookR, Nat.reduceEqDiff, ↓reduceIte]; rfl) : p := h
theorem mr {p : Prop} (h : p := by rfl) : p := h
theorem mK {p : Prop} (h : p := by (try simp only [chkT, chkR]); (repeat' (first | exact True.intro | apply And.intro | exact ⟨_, rfl, rfl, rfl, rfl, rfl⟩ | rfl | decide))) : p := h
theorem mD {p : Prop} (h : p := by first | exact List.nodup_nil | (simp only [List.map_cons, List.map_nil, lookN, Nat.reduceEqDiff, ↓reduceIte]; decide)) : p := h
theorem mQ {p : Prop} (h : p := by first | rfl | (simp only [En_k0, lookN, List.all_cons, List.all_nil]; decide)) : p := h
theorem w64p {i n : Nat} (h : i < n) (hn : n ≤ 9223372036854775807) : IntKind.i64.wrap ((i : Int) + 1) = ((i + 1 : Nat) : Int) := by
  rw [IntKind.wrap_i64]
  have : ((i : Int) + 1) ≤ 9223372036854775807 := by omega
  omega

theorem chkRm {α : Type} {f : α → List V} {ys : List α} {ρ : Nat → Nat} {bd n ty sz : Nat} {R : Rs} {els0 : List (List V)} {l : List (Nat × Root)} (hl : R (ρ n) = some ⟨ty, sz, els0⟩) (hn : n < bd) (he : els0 = ys.map f) (h1 : ∀ a, (f a).map (rnC ρ) = f a) (h2 : ∀ a, (f a).all (okC false bd) = true) (k : chkR ρ bd R l) :
    chkR ρ bd R ((n, ⟨ty, sz, ys.map f⟩) :: l) := by
  refine ⟨⟨hn, _, hl, rfl, rfl, ?_, ?_⟩, k⟩
  · rw [he]
    simp only [List.map_map]
    exact List.map_congr_left fun a _ => (h1 a).symm
  · refine List.all_eq_true.2 fun x hx => ?_
    obtain ⟨a, _, rfl⟩ := List.mem_map.1 hx
    exact h2 a

theorem map_take_succ {α β : Type} {f : α → β} {l : List α} {i : Nat} (d : α) (h : i < l.length) : (l.take i).map f ++ [f (l.getD i d)] = (l.take (i + 1)).map f := by
  rw [List.take_succ_eq_append_getElem h, List.map_append]
  simp [List.getD_eq_getElem?_getD, h]

theorem pure_map {α : Type} {f : α → List V} {l : List α} (h : ∀ a, (f a).all pcell = true) : (l.map f).all (·.all pcell) = true := by
  refine List.all_eq_true.2 fun x hx => ?_
  obtain ⟨a, _, rfl⟩ := List.mem_map.1 hx
  exact h a

/-- Values without own memory and without anything frozen. -/
def scal0 : V → Bool
  | .val _ => true
  | _ => false
def scal1 : V → Bool
  | .agg cs => cs.all scal0
  | x => scal0 x
def scal : V → Bool
  | .tup cs => cs.all scal1
  | x => scal1 x

theorem scal0_ok {ρ : Nat → Nat} {bd : Nat} {x : V} (h : scal0 x = true) : rnC ρ x = x ∧ okC true bd x = true := by
  cases x <;> first | exact ⟨rfl, rfl⟩ | simp [scal0] at h
theorem map_same {f : V → V} : ∀ {cs : List V}, (∀ c, c ∈ cs → f c = c) → cs.map f = cs
  | [], _ => rfl
  | c :: cs, h => by rw [List.map_cons, h c (by simp), map_same fun d hd => h d (by simp [hd])]
theorem scal1_ok {ρ : Nat → Nat} {bd : Nat} {x : V} (h : scal1 x = true) : rnA ρ x = x ∧ okA true bd x = true := by
  cases x with
  | agg cs =>
    have h' := List.all_eq_true.1 h
    exact ⟨by simp only [rnA]; rw [map_same fun c hc => (scal0_ok (bd := 0) (h' c hc)).1], List.all_eq_true.2 fun c hc => (scal0_ok (ρ := id) (h' c hc)).2⟩
  | val u => exact ⟨rfl, rfl⟩
  | _ => simp [scal1, scal0] at h
theorem scal_ok {ρ : Nat → Nat} {bd : Nat} {x : V} (h : scal x = true) : rnV ρ x = x ∧ okV true bd x = true := by
  cases x with
  | tup cs =>
    have h' := List.all_eq_true.1 h
    exact ⟨by simp only [rnV]; rw [map_same fun c hc => (scal1_ok (bd := 0) (h' c hc)).1], List.all_eq_true.2 fun c hc => (scal1_ok (ρ := id) (h' c hc)).2⟩
  | agg cs => exact scal1_ok (x := .agg cs) h
  | val u => exact ⟨rfl, rfl⟩
  | _ => simp [scal, scal1, scal0] at h

section ret
variable {E : Env} {res : List ResultVar} {σ : St} {v : V} {rs : List Root}

theorem resT : ∀ {ts : List Nat} {us : List V}, (∀ t, t ∈ ts → t < E.nt) → ts.map (lookT σ.T) = us → ResL E (lookT σ.T) (lookR σ.R) (ts.map .tmp) us
  | [], us, _, h => by subst h; exact .nil
  | t :: ts, us, hn, h => by
    subst h
    exact .tmp (hn t (by simp)) rfl (resT (fun x hx => hn x (by simp [hx])) rfl)

/-- Results in temporaries, numbers and their kin. -/
theorem retT (ts : List Nat) {us : List V} (hr : res = ts.map .tmp := by rfl) (hn : ts.all (fun t => decide (t < E.nt)) = true := by rfl) (hu : ts.map (lookT σ.T) = us := by simp only [List.map_cons, List.map_nil, lookT, Nat.reduceEqDiff, ↓reduceIte]; rfl) (ok : scal v = true := by rfl) (hv : oneOf us = v) : retK E res v [] .ret σ :=
  ⟨⟨[], us, by rw [hr]; exact resT (fun t ht => by simpa using List.all_eq_true.1 hn t ht) hu, by rw [(scal_ok (bd := 0) ok).1]; exact hv, List.nodup_nil, trivial, (scal_ok (ρ := id) ok).2⟩⟩

/-- Results in temporaries, with roots. -/
theorem retR (ns ts : List Nat) {us : List V} (hr : res = ts.map .tmp := by rfl) (hn : ts.all (fun t => decide (t < E.nt)) = true := by rfl) (hu : ts.map (lookT σ.T) = us := by simp only [List.map_cons, List.map_nil, lookT, Nat.reduceEqDiff, ↓reduceIte]; rfl)
    (hd : ns.Nodup := by decide) (ok : okV true rs.length v = true := by rfl) (hv : oneOf us = rnV (fun k => ns.getD k 0) v) (hR : RootsL (lookR σ.R) ns rs) : retK E res v rs .ret σ :=
  ⟨⟨ns, us, by rw [hr]; exact resT (fun t ht => by simpa using List.all_eq_true.1 hn t ht) hu, hv, hd, hR, ok⟩⟩
end ret
end Go.Ev
namespace Go.Ev
open Go Go.RowKit Go.Proofs

/-- A row of a root that is told by a list. -/
theorem getP_map {α : Type} {R : Rs} {n ty sz k j s : Nat} {ys : List α} {g : α → List V} {xs : List (List V)} (d : α) (hr : R n = some ⟨ty, sz, ys.map g⟩) (hk : k < ys.length) (hx : (g (ys.getD k d)).getD j .any = .row s xs) : getP R (n, some (k, j)) = some (s, xs) := by
  simp only [getP, hr]
  rw [getD_mapL d [] hk, hx]

theorem set_map {α β : Type} {f : α → β} {l : List α} {k : Nat} {y : α} : (l.map f).set k (f y) = (l.set k y).map f := by
  rw [List.map_set]

theorem set_put {α : Type} {g : α → List V} {ys : List α} {k j : Nat} {y : α} {cs : List V} (d : α) (hk : k < ys.length) (h : putCells (g (ys.getD k d)) j cs = g y) : (ys.map g).set k (putCells ((ys.map g).getD k []) j cs) = (ys.set k y).map g := by
  rw [getD_mapL d [] hk, h, set_map]

/-- Copied so far, zeros behind. -/
def soFar {α : Type} (z : α) (xs : List α) (i : Nat) : List α := xs.take i ++ List.replicate (xs.length - i) z
theorem soFar_length {α : Type} {z : α} {xs : List α} {i : Nat} (h : i ≤ xs.length) : (soFar z xs i).length = xs.length := by
  simp only [soFar, List.length_append, List.length_take, List.length_replicate]; omega
theorem soFar_zero {α : Type} {z : α} {xs : List α} : soFar z xs 0 = List.replicate xs.length z := by simp [soFar]
theorem soFar_full {α : Type} {z : α} {xs : List α} : soFar z xs xs.length = xs := by simp [soFar]
theorem soFar_set {α : Type} {z d : α} {xs : List α} {i : Nat} (h : i < xs.length) : (soFar z xs i).set i (xs.getD i d) = soFar z xs (i + 1) := by
  have e : xs.getD i d = xs[i] := by simp [List.getD_eq_getElem?_getD, h]
  rw [e]
  apply List.ext_getElem?
  intro k
  rw [List.getElem?_set]
  simp only [soFar, List.length_append, List.length_take, List.length_replicate, List.getElem?_append, List.getElem?_take, List.getElem?_replicate, Nat.min_eq_left (Nat.le_of_lt h), Nat.min_eq_left (show i + 1 ≤ xs.length from h)]
  rcases Nat.lt_trichotomy i k with h1 | rfl | h1
  · have e1 : k - i < xs.length - i ↔ k < xs.length := by omega
    have e2 : k - (i + 1) < xs.length - (i + 1) ↔ k < xs.length := by omega
    simp only [e1, e2, show ¬ i = k by omega, show ¬ k < i by omega, show ¬ k < i + 1 by omega, if_false]
  · simp only [if_true, show i < i + 1 by omega, show i < i + (xs.length - i) by omega, List.getElem?_eq_getElem h]
  · simp only [show ¬ i = k by omega, h1, show k < i + 1 by omega, if_true, if_false]

theorem mZ {p : Prop} (h : p := by simp only [En_tab, tabs]; decide) : p := h
theorem mV {p : Prop} (h : p := by simp only [En_tab, tabs, cellsAt, cellAt, ofCells, List.drop_zero, List.take_succ_cons, List.take_zero, List.drop_succ_cons, Nat.reduceAdd]; rfl) : p := h

section rules
variable {E : Env} {C0 : Cx} {T : List (Nat × V)} {R : List (Nat × Root)} {ops : Array Oper} {base i bi : Nat} {o : Oper} {l : List Oper} {T1 : List (Nat × V)} {R1 : List (Nat × Root)} {v : V}
variable {Kd : List (Nat × V) → List (Nat × Root) → List Lg → Prop}

/-- An element's address in own memory. -/
theorem dr_ixp {t : TypeId} {x ix : Operand} {p : Pl} {off len sz : Nat} {xs : List (List V)} {kd : IntKind} {k : Int} (hw : WantOK E.nt ops o (lookT T) true) (ho : o.op = .indexAddr t x ix) (hb : base + 8 * i = bi) (hx : lookO E.nt (lookT T) x = .ref p off len) (hi : lookO E.nt (lookT T) ix = .val (.int kd k)) (hp : getP (lookR R) p = some (sz, xs))
    (hs : slT E.tab t ∧ sz = (E.tab (E.tab t).elem).sz) (h01 : 0 ≤ k ∧ k < len) {ik : Nat} (hik : off + k.toNat = ik) (hT : putT T o.dst (.ptr p ik 0) = T1)
    (hk : Dr E ops base (i + 1) l (fun T' R' lg => Kd T' R' ((opNames (lookO E.nt (lookT T)) o.op, []) :: lg)) T1 R) : Dr E ops base i (o :: l) Kd T R :=
  dr_act hw hb (c := slT E.tab t ∧ (sz = (E.tab (E.tab t).elem).sz ∧ 0 ≤ k ∧ k < len)) (wr := []) (by rw [ho]; simp only [act, hx, hi, indexAddrV, hp, grd, Option.map_some, hik]) ⟨hs.1, hs.2, h01.1, h01.2⟩ hT rfl hk

/-- A load from own memory that is told by a list. -/
theorem dr_ldp {α : Type} {g : α → List V} {ys : List α} (d : α) {t : TypeId} {a : Operand} {p : Pl} {k j sz : Nat} (hw : WantOK E.nt ops o (lookT T) true) (ho : o.op = .load t a) (hb : base + 8 * i = bi) (ha : lookO E.nt (lookT T) a = .ptr p k j) (hp : getP (lookR R) p = some (sz, ys.map g))
    (hk0 : k < ys.length) (hz : (E.tab t).sz ≠ 0 ∧ j + (E.tab t).sz ≤ sz) (hv : ofCells (E.tab t).agg (cellsAt p k j (((g (ys.getD k d)).drop j).take (E.tab t).sz)) = some v) (hT : putT T o.dst v = T1)
    (hk : Dr E ops base (i + 1) l (fun T' R' lg => Kd T' R' ((opNames (lookO E.nt (lookT T)) o.op, []) :: lg)) T1 R) : Dr E ops base i (o :: l) Kd T R :=
  dr_act hw hb (c := (E.tab t).sz ≠ 0 ∧ (k < (ys.map g).length ∧ j + (E.tab t).sz ≤ sz)) (wr := []) (by rw [ho]; simp only [act, ha, loadV, hp, grd]; rw [getD_mapL d [] hk0, hv]; rfl) ⟨hz.1, by rw [List.length_map]; exact hk0, hz.2⟩ hT rfl hk

/-- A part of own memory. -/
theorem dr_slp {t : TypeId} {x : Operand} {lo hi : Option Operand} {p : Pl} {off len sz : Nat} {xs : List (List V)} {a c : Int} (hw : WantOK E.nt ops o (lookT T) true) (ho : o.op = .slice t x lo hi none) (hb : base + 8 * i = bi) (hx : lookO E.nt (lookT T) x = .ref p off len) (hp : getP (lookR R) p = some (sz, xs))
    (hlo : bndV (lo.map (lookO E.nt (lookT T))) 0 = some a) (hhi : bndV (hi.map (lookO E.nt (lookT T))) len = some c) (hs : slT E.tab t ∧ sz = (E.tab (E.tab t).elem).sz) (h01 : 0 ≤ a ∧ a ≤ c ∧ c ≤ len) (hv : V.ref p (off + a.toNat) (c.toNat - a.toNat) = v) (hT : putT T o.dst v = T1)
    (hk : Dr E ops base (i + 1) l (fun T' R' lg => Kd T' R' ((opNames (lookO E.nt (lookT T)) o.op, []) :: lg)) T1 R) : Dr E ops base i (o :: l) Kd T R :=
  dr_act hw hb (c := slT E.tab t ∧ (sz = (E.tab (E.tab t).elem).sz ∧ 0 ≤ a ∧ a ≤ c ∧ c ≤ len)) (wr := []) (by rw [ho]; simp only [act, hx, sliceV, Option.some_or, hlo, hhi, hp, grd, Option.map_some]; rw [hv]) ⟨hs.1, hs.2, h01⟩ hT rfl hk

/-- Bytes copied into own memory. -/
theorem dr_cpp {d s : Operand} {ts : Array TypeId} {t u : TypeId} {p : Pl} {off len : Nat} {xs ys : List (List V)} {r : Root} (hw : WantOK E.nt ops o (lookT T) true) (ho : o.op = .call ⟨.builtin .copy, #[d, s], #[t, u]⟩) (hb : base + 8 * i = bi) (hd : lookO E.nt (lookT T) d = .ref p off len) (hp : getP (lookR R) p = some (1, xs)) (hr : lookR R p.1 = some r)
    (hs : elsOf (lookR R) (lookO E.nt (lookT T) s) = some (1, ys)) (hz : slT E.tab t ∧ (E.tab (E.tab t).elem).sz = 1) (hn : ys.all (·.all notRow) = true) {zs : List (List V)} (hz' : copyL xs ys off (min len ys.length) = zs) (hT : putT T o.dst (.val (goInt (min len ys.length : Nat))) = T1) (hR : applyW R [(p.1, some (setP r p.2 zs))] = R1)
    (hk : Dr E ops base (i + 1) l (fun T' R' lg => Kd T' R' ((opNames (lookO E.nt (lookT T)) o.op, [(p.1, some (setP r p.2 zs))]) :: lg)) T1 R1) : Dr E ops base i (o :: l) Kd T R :=
  dr_act hw hb (c := slT E.tab t ∧ (((E.tab (E.tab t).elem).sz = 1 ∧ (1 : Nat) = 1 ∧ (1 : Nat) = 1) ∧ ys.all (·.all notRow) = true)) (by rw [ho]; simp only [act, callV, List.toList_toArray, hd, hs, copyV, hr, hp, grd, Option.map_some]; rw [hz']) ⟨hz.1, ⟨hz.2, rfl, rfl⟩, hn⟩ hT hR hk

/-- A store into own memory. -/
theorem dr_stp {t : TypeId} {a x : Operand} {y : V} {p : Pl} {k j sz : Nat} {xs zs : List (List V)} {r r' : Root} (hw : WantOK E.nt ops o (lookT T) true) (ho : o.op = .store t a x) (hb : base + 8 * i = bi) (ha : lookO E.nt (lookT T) a = .ptr p k j) (hp : getP (lookR R) p = some (sz, xs)) (hr : lookR R p.1 = some r)
    (hx : lookO E.nt (lookT T) x = y) (hy : y.cells.all oneV = true ∧ y.cells.length = (E.tab t).sz) (hz : (E.tab t).sz ≠ 0) (hk0 : k < xs.length ∧ j + (E.tab t).sz ≤ sz) (hz' : xs.set k (putCells (xs.getD k []) j y.cells) = zs) (hs : setP r p.2 zs = r') (hT : putT T o.dst .any = T1) (hR : applyW R [(p.1, some r')] = R1)
    (hk : Dr E ops base (i + 1) l (fun T' R' lg => Kd T' R' ((opNames (lookO E.nt (lookT T)) o.op, [(p.1, some r')]) :: lg)) T1 R1) : Dr E ops base i (o :: l) Kd T R :=
  dr_act hw hb (c := (E.tab t).sz ≠ 0 ∧ ((y.cells.all oneV = true ∧ y.cells.length = (E.tab t).sz) ∧ k < xs.length ∧ j + (E.tab t).sz ≤ sz)) (by rw [ho]; simp only [act, ha, hx, storeV, hr, hp, grd, Option.map_some]; rw [hz', hs]) ⟨hz, hy, hk0⟩ hT hR hk

/-- Results in temporaries, roots from outside. -/
theorem retRT {res : List ResultVar} {σ : St} {rs' : List (Option Root)} (ns ts : List Nat) {us : List V} (hr : res = ts.map .tmp := by rfl) (hn : ts.all (fun t => decide (t < E.nt)) = true := by rfl) (hu : ts.map (lookT σ.T) = us := by simp only [List.map_cons, List.map_nil, lookT, Nat.reduceEqDiff, ↓reduceIte]; rfl)
    (hd : ns.Nodup ∧ (ns.all fun n => decide (E.k0 ≤ n)) = true := by decide) (hl : E.k0 + ns.length = rs'.length := by rfl) (hv : oneOf us = rnV (dnN E.k0 ns) v := by rfl) (hR : RootsR (lookR σ.R) (dnN E.k0 ns) 0 rs') : retKR E res v rs' .ret σ :=
  ⟨ns, us, by rw [hr]; exact resT (fun t ht => by simpa using List.all_eq_true.1 hn t ht) hu, hv, hd.1, hd.2, hl, hR⟩

/-- One result, in a variable. -/
theorem retC {res : List ResultVar} {σ : St} {rs : List Root} {a t : Nat} {p : Pl} {k j : Nat} {c : Prop} {u : V} {wr : List (Nat × Option Root)} (ns : List Nat) (hr : res = [.cell a t] := by rfl) (hn : a < E.nt := by simp only [En_nt]; decide) (hs : (E.tab t).sz ≠ 0 := by simp only [En_tab, tabs]; decide) (hl : lookT σ.T a = .ptr p k j := by rfl)
    (h : loadV (E.tab t) (lookR σ.R) (.ptr p k j) = some ⟨c, u, wr⟩ := by exact ma) (hc : c := by exact mc) (hd : ns.Nodup := by decide) (ok : okV true rs.length v = true := by rfl) (hv : u = rnV (fun k => ns.getD k 0) v := by rfl) (hR : RootsL (lookR σ.R) ns rs) : retK E res v rs .ret σ :=
  ⟨⟨ns, [u], by rw [hr]; exact .cell hn hs (by rw [hl]; exact h) hc ⟨p, k, j, hl⟩ .nil, hv, hd, hR, ok⟩⟩

theorem rnMap {α : Type} {g : α → List V} {ρ : Nat → Nat} (h : ∀ a, (g a).map (rnC ρ) = g a) (ys : List α) : ys.map g = (ys.map g).map (·.map (rnC ρ)) := by
  rw [List.map_map]
  exact List.map_congr_left fun a _ => (h a).symm

theorem okMap {α : Type} {g : α → List V} {bd : Nat} (h : ∀ a, (g a).all (okC false bd) = true) (ys : List α) : (ys.map g).all (·.all (okC false bd)) = true := by
  refine List.all_eq_true.2 fun x hx => ?_
  obtain ⟨a, _, rfl⟩ := List.mem_map.1 hx
  exact h a
end rules
end Go.Ev
namespace Go.Ev
open Go Go.RowKit Go.Proofs

abbrev vi (n : Int) : V := .val (.int .i64 n)
abbrev vb (b : Bool) : V := .val (.bool b)

theorem c133 (x a b : Int) : Good Try.prog 133 [vi x, vi a, vi b] (vb (decide (a ≤ x ∧ x ≤ b))) [] := by
  refine good_of (E := En 15) (fn := Try.f133) (by kernel_rfl) (by kernel_rfl) rfl rfl (by simp only [List.length_cons, List.length_nil]; decide) (fun C0 => ?_)
  simp only [argT, Nat.reduceAdd]
  refine ev_seq fun K1 h1 => ev_rf (b' := 8) rfl ?_
  repeat refine dr_act wN mb ma mc mT mR ?_
  refine dr_nil (h1 _ ?_)
  clear h1 K1
  refine ev_seq fun K1 h1 => ev_rf (b' := 80) rfl ?_
  repeat refine dr_act wN mb ma mc mT mR ?_
  cases hd : decide (x ≥ a) <;> repeat (first | refine dr_act wN mb ma mc mT mR ?_ | refine dr_act wG mb ma mc mT mR ?_ | refine dr_skip wG mT ?_)
  all_goals
    refine dr_nil (h1 _ ?_)
    clear h1 K1
    refine ev_ret ?_
  · refine retT [6] (hv := ?_)
    have : ¬ (a ≤ x ∧ x ≤ b) := fun h => by simp at hd; omega
    rw [decide_eq_false this]; rfl
  · refine retT [6] (hv := ?_)
    have h1 : a ≤ x := by simpa using hd
    show vb _ = vb _
    congr 2
    simp [h1]
end Go.Ev
namespace Go.Ev
open Go Go.RowKit Go.Proofs

abbrev cB (n : Int) : List V := [.val (.int .u8 n)]
def eB (xs : List Int) : V := .list 1 (xs.map cB)
abbrev cM (r : List Int) : List V := [eB r]
def eM (m : List (List Int)) : V := .list 1 (m.map cM)
abbrev eMem (m : List (List Int)) : V := .agg [eM m]
structure Win where (a s n c : Int)
abbrev cW (w : Win) : List V := [vi w.a, vi w.s, vi w.n, vi w.c]
abbrev eW (w : Win) : V := .agg (cW w)

def okMem (m : List (List Int)) : Bool := decide (m.length ≤ 16) && m.all fun r => decide (1 ≤ r.length) && decide (r.length ≤ 64)

theorem c202 (m : List (List Int)) (w : Win) (i : Int) (h1 : 0 ≤ w.a ∧ w.a < m.length) (h2 : IntKind.i64.wrap (w.s + i) = w.s + i) (h3 : 0 ≤ w.s + i ∧ w.s + i < (m.getD w.a.toNat []).length) :
    Good Try.prog 202 [eMem m, eW w, vi i] (.val (.int .u8 ((m.getD w.a.toNat []).getD (w.s + i).toNat 0))) [] := by
  refine good_of (E := En 19) (fn := Try.f202) (by kernel_rfl) (by kernel_rfl) rfl rfl (by simp only [List.length_cons, List.length_nil]; decide) (fun C0 => ?_)
  simp only [argT, Nat.reduceAdd]
  refine ev_seq fun K1 h1' => ev_rf (b' := 24) rfl ?_
  repeat refine dr_act wN mb ma mc mT mR ?_
  refine dr_nil (h1' _ ?_); clear h1' K1
  refine ev_seq fun K1 h1' => ev_reg (b' := 128) rfl ?_
  repeat refine dr_act wN mb ma mc mT mR ?_
  refine dr_ix [] wN mr mb ml ml mS h1 mT ?_
  repeat refine dr_act wN mb ma mc mT mR ?_
  refine dr_ix (0 : Int) wN mr mb (by simp only [En_nt, lookO, lookT, Nat.reduceEqDiff, Nat.reduceLT, ↓reduceIte, eB]; rfl) ml mS (by rw [h2]; exact h3) mT ?_
  rw [h2]
  repeat refine dr_act wN mb ma mc mT mR ?_
  refine dr_nil ⟨fun _ => by kernel_rfl, h1' _ ?_⟩; clear h1' K1
  refine ev_ret ?_
  exact retT [6] (hv := rfl)
end Go.Ev
namespace Go.Ev
open Go Go.RowKit Go.Proofs

def okRow (r : List Int) : Bool := decide ((1 : Int) ≤ (r.length : Int) ∧ (r.length : Int) ≤ 64)
def okM (m : List (List Int)) : Bool := (m.take 17).all okRow && decide ((m.length : Int) ≤ 16)

theorem c164 (m : List (List Int)) (hm : m.length ≤ 9223372036854775806) : Good Try.prog 164 [eMem m] (vb (okM m)) [] := by
  refine good_of (E := En 27) (fn := Try.f164) (by kernel_rfl) (by kernel_rfl) rfl rfl (by simp only [List.length_cons, List.length_nil]; decide) (fun C0 => ?_)
  simp only [argT, Nat.reduceAdd]
  refine ev_seq fun K1 h1 => ev_rf mB ?_
  repeat refine dr_act wN mb ma mc mT mR ?_
  refine dr_nil (h1 _ ?_); clear h1 K1
  refine ev_seq fun K1 h1 => ?_
  refine ev_seq fun K2 h2 => ev_rf mB ?_
  repeat refine dr_act wN mb ma mc mT mR ?_
  refine dr_nil (h2 _ ?_); clear h2 K2
  refine ev_block (ev_loop (α := {i : Nat // i ≤ m.length ∧ i ≤ 17 ∧ (m.take i).all okRow = true}) (fun i => ⟨[(1, .ptr (0, none) 0 0), (3, vi i.1)], [(0, ⟨31, 1, [[eM m]]⟩)], 24⟩) (fun i => 17 - i.1) ⟨0, by simp⟩ (weak_ren [] mK mK mD mQ) (fun ⟨i, hi, hi17, hall⟩ => ?_))
  refine ev_seq fun K2 h2 => ev_seq fun K3 h3 => ev_rf mB ?_
  repeat refine dr_act wN mb ma mc mT mR ?_
  cases hd : decide ((i : Int) < m.length) <;> repeat (first | refine dr_act wN mb ma mc mT mR ?_ | refine dr_act wG mb ma mc mT mR ?_ | refine dr_skip wG mT ?_)
  all_goals (refine dr_nil (h3 _ ?_); clear h3)
  · refine ev_cond _ ml (fun h => by cases h) (fun _ => ev_exit ?_)
    simp only [seqK, loopK, blkK, ↓reduceIte]
    refine h1 _ ?_; clear h1 h2
    have hle : m.length = i := by have := of_decide_eq_false hd; omega
    refine ev_seq fun K1 h1 => ev_rf mB ?_
    repeat refine dr_act wN mb ma mc mT mR ?_
    refine dr_nil (h1 _ ?_); clear h1
    refine ev_ret ?_
    refine retT [2] (hv := ?_)
    show vb _ = vb _
    have : m.take 17 = m := List.take_of_length_le (by omega)
    have h2 : m.take i = m := List.take_of_length_le (by omega)
    rw [h2] at hall
    simp [okM, this, hall]
  refine ev_cond _ ml (fun h => ev_skip (h2 _ ?_)) (fun h => ev_exit ?_)
  · clear h1 h2
    have hlt := of_decide_eq_true hd
    refine ev_seq fun K2 h2 => ev_block (ev_seq fun K4 h4 => ev_rf mB ?_)
    repeat refine dr_act wN mb ma mc mT mR ?_
    refine dr_ix ([] : List Int) wN mr mb ml ml mS ⟨by omega, hlt⟩ mT ?_
    repeat refine dr_act wN mb ma mc mT mR ?_
    refine dr_callF wN mr mb mx mr (c133 _ _ _) mc mv mT mN ?_
    repeat refine dr_act wN mb ma mc mT mR ?_
    refine dr_nil (h4 _ ?_); clear h4 K4
    have hg : m.getD i [] = m[i]'(by omega) := by simp [List.getD_eq_getElem?_getD, show i < m.length by omega]
    have h16 := of_decide_eq_true h
    refine ev_cond _ ml (fun hb => ?_) (fun hb => ev_skip ?_)
    · refine ev_seq fun K5 h5 => ev_rf mB ?_
      repeat refine dr_act wN mb ma mc mT mR ?_
      refine dr_nil (h5 _ ?_); clear h5
      refine ev_ret ?_
      refine retT [2] (hv := ?_)
      show vb _ = vb _
      have hno : okRow (m[i]'(by omega)) = false := by rw [hg] at hb; rw [Bool.not_eq_true'] at hb; exact hb
      have : (m.take 17).all okRow = false := by
        rw [List.all_eq_false]
        refine ⟨m[i]'(by omega), ?_, by simp [hno]⟩
        exact List.mem_take_iff_getElem.2 ⟨i, by omega, rfl⟩
      simp [okM, this]
    · simp only [blkK, seqK]
      refine h2 _ (ev_rf mB ?_)
      repeat refine dr_act wN mb ma mc mT mR ?_
      refine dr_nil ⟨⟨i + 1, by omega, by omega, ?_⟩, by simp only []; omega, ?_⟩
      · rw [List.take_succ_eq_append_getElem (by omega), List.all_append, hall]
        rw [hg] at hb
        simpa [okRow] using hb
      · rw [w64p (n := m.length) (by omega) (by omega)]
        exact weak_ren [] mK mK mD mQ
  · simp only [seqK, loopK, blkK, ↓reduceIte]
    refine h1 _ ?_; clear h1 h2
    have h17 : i = 17 := by have := of_decide_eq_false h; omega
    have hlt := of_decide_eq_true hd
    refine ev_seq fun K1 h1 => ev_rf mB ?_
    repeat refine dr_act wN mb ma mc mT mR ?_
    refine dr_nil (h1 _ ?_); clear h1
    refine ev_ret ?_
    refine retT [2] (hv := ?_)
    show vb _ = vb _
    have : decide ((m.length : Int) ≤ 16) = false := by simp; omega
    simp [okM, this]
end Go.Ev
namespace Go.Ev
open Go Go.RowKit Go.Proofs

/-- The bytes of a window. -/
def bytesOf (m : List (List Int)) (w : Win) : List Int := (List.range w.n.toNat).map fun i => (m.getD w.a.toNat []).getD (w.s + (i : Nat)).toNat 0

/-- A window that lies in its array. -/
structure Fits (m : List (List Int)) (w : Win) : Prop where
  a0 : 0 ≤ w.a
  a1 : w.a < m.length
  s0 : 0 ≤ w.s
  n0 : 0 ≤ w.n
  n1 : w.s + w.n ≤ (m.getD w.a.toNat []).length
  sm : ((m.getD w.a.toNat []).length : Int) ≤ 64

theorem wrap_of {x : Int} (h0 : -9223372036854775808 ≤ x) (h1 : x ≤ 9223372036854775807) : IntKind.i64.wrap x = x := by
  rw [IntKind.wrap_i64]; omega

theorem c185 (m : List (List Int)) (w : Win) (hf : Fits m w) : Good Try.prog 185 [eMem m, eW w] (.ref (0, none) 0 w.n.toNat) [⟨5, 1, (bytesOf m w).map cB⟩] := by
  refine good_of (E := En 22) (fn := Try.f185) (by kernel_rfl) (by kernel_rfl) rfl rfl (by simp only [List.length_cons, List.length_nil]; decide) (fun C0 => ?_)
  simp only [argT, Nat.reduceAdd]
  refine ev_seq fun K1 h1 => ev_rf mB ?_
  repeat refine dr_act wN mb ma mc mT mR ?_
  refine dr_nil (h1 _ ?_); clear h1 K1
  refine ev_seq fun K1 h1 => ev_rf mB ?_
  repeat refine dr_act wN mb ma mc mT mR ?_
  refine dr_nil (h1 _ ?_); clear h1 K1
  have hlen : (bytesOf m w).length = w.n.toNat := by simp [bytesOf]
  have hn64 : w.n.toNat ≤ 64 := by have := hf.n1; have := hf.sm; have := hf.s0; omega
  refine ev_seq fun K1 h1 => ?_
  refine ev_seq fun K2 h2 => ev_rf mB ?_
  repeat refine dr_act wN mb ma mc mT mR ?_
  refine dr_nil (h2 _ ?_); clear h2 K2
  refine ev_block (ev_loop (α := {i : Nat // i ≤ w.n.toNat}) (fun i => ⟨[(2, .ptr (0, none) 0 0), (3, .ptr (8, none) 0 0), (5, .ref (24, none) 0 i.1), (6, vi i.1)], [(24, ⟨5, 1, ((bytesOf m w).take i.1).map cB⟩), (8, ⟨32, 4, [cW w]⟩), (0, ⟨31, 1, [[eM m]]⟩)], 48⟩) (fun i => w.n.toNat - i.1) ⟨0, Nat.zero_le _⟩ (weak_ren [] mK mK mD mQ) (fun ⟨i, hi⟩ => ?_))
  refine ev_seq fun K2 h2 => ev_seq fun K3 h3 => ev_rf mB ?_
  repeat refine dr_act wN mb ma mc mT mR ?_
  refine dr_nil (h3 _ ?_); clear h3
  refine ev_cond _ ml (fun h => ev_skip (h2 _ ?_)) (fun h => ev_exit ?_)
  · clear h1 h2
    have hlt := of_decide_eq_true h
    have hs := hf.s0
    have hn := hf.n1
    have hsm := hf.sm
    have hw : IntKind.i64.wrap (w.s + (i : Nat)) = w.s + (i : Nat) := wrap_of (by omega) (by omega)
    refine ev_seq fun K2 h2 => ev_block (ev_rf mB ?_)
    repeat refine dr_act wN mb ma mc mT mR ?_
    refine dr_callF wN mr mb mx mr (c202 m w i ⟨hf.a0, hf.a1⟩ hw (by omega)) mc mv mT mN ?_
    refine dr_act wN mb ma mc mT mR ?_
    refine dr_act wN mb ma (by exact ⟨by rw [List.length_take]; omega, ⟨by simp only [maxLen]; omega, by omega⟩, rfl⟩) mT mR ?_
    repeat refine dr_act wN mb ma mc mT mR ?_
    refine dr_nil (h2 _ (ev_rf mB ?_)); clear h2
    repeat refine dr_act wN mb ma mc mT mR ?_
    refine dr_nil ⟨⟨i + 1, by omega⟩, by simp only []; omega, ?_⟩
    rw [w64p (n := 64) (by omega) (by omega)]
    refine weak_ren [(24, 128)] mK (chkRm rfl (by decide) ?_ (fun _ => rfl) (fun _ => rfl) mK) mD mQ
    have hi' : i < w.n.toNat := by omega
    rw [← map_take_succ (0 : Int) (by omega)]
    congr 2
    simp [cB, bytesOf, List.getD_eq_getElem?_getD, hi', List.getElem?_map, List.getElem?_range]
  · simp only [seqK, loopK, blkK, ↓reduceIte]
    refine h1 _ ?_; clear h1 h2
    have hge := of_decide_eq_false h
    have hn0 := hf.n0
    obtain rfl : i = w.n.toNat := by omega
    refine ev_seq fun K1 h1 => ev_rf mB ?_
    repeat refine dr_act wN mb ma mc mT mR ?_
    refine dr_nil (h1 _ (ev_ret ?_)); clear h1
    refine retR [24] [4] (hv := rfl) (hR := ⟨⟨?_, ?_⟩, trivial⟩)
    · rw [← hlen, List.take_length]; rfl
    · exact pure_map fun _ => rfl
end Go.Ev
namespace Go.Ev
open Go Go.RowKit Go.Proofs

abbrev cR (l : List Int) : List V := [.row 1 (l.map cB)]
/-- The memory, own: its rows. -/
abbrev rM (m : List (List Int)) : Root := ⟨29, 1, m.map cR⟩

theorem c107 (m : List (List Int)) (w : Win) (hf : Fits m w) (hw : IntKind.i64.wrap (w.s + w.n) = w.s + w.n) :
    GoodR Try.prog 107 [.agg [.ref (0, none) 0 m.length], eW w] [rM m] (.ref (0, some (w.a.toNat, 0)) w.s.toNat w.n.toNat) [some (rM m)] := by
  refine goodR_of (E := En 19 1) (fn := Try.f107) (by kernel_rfl) (by kernel_rfl) rfl rfl (by simp only [List.length_cons, List.length_nil]; decide) ⟨rfl, Nat.le_refl 1⟩ rfl ⟨okMap (fun _ => by simp [okC]) m, trivial⟩ (fun C0 => ?_)
  simp only [argT, rsT, Nat.reduceAdd, List.length_cons, List.length_nil]
  refine ev_seq fun K1 h1 => ev_rf mB ?_
  repeat refine dr_act wN mb ma mc mT mR ?_
  refine dr_nil (h1 _ ?_); clear h1 K1
  have ha := hf.a0
  have ha1 := hf.a1
  refine ev_seq fun K1 h1 => ev_reg mB ?_
  repeat refine dr_act wN mb ma mc mT mR ?_
  refine dr_ixp wN mr mb ml ml mr mS ⟨ha, ha1⟩ (Nat.zero_add _) mT ?_
  refine dr_ldp (g := cR) (ys := m) [] wN mr mb ml mr (by omega) ⟨by decide, Nat.le_refl 1⟩ mV mT ?_
  repeat refine dr_act wN mb ma mc mT mR ?_
  have hs := hf.s0
  have hn := hf.n0
  have hn1 := hf.n1
  refine dr_slp (a := w.s) (c := IntKind.i64.wrap (w.s + w.n)) wN mr mb ml (getP_map (d := []) (g := cR) (ys := m) mr (by omega) mr) mr mr mS (by rw [hw, List.length_map]; omega) (v := .ref (0, some (w.a.toNat, 0)) w.s.toNat w.n.toNat) (by rw [hw]; congr 1 <;> omega) mT ?_
  repeat refine dr_act wN mb ma mc mT mR ?_
  refine dr_nil ⟨fun _ => by kernel_rfl, h1 _ (ev_ret ?_)⟩
  exact retRT [] [4] (hR := ⟨⟨_, rfl, rfl, rfl, rnMap (fun _ => rfl) m⟩, trivial⟩)
end Go.Ev
namespace Go.Ev
open Go Go.RowKit Go.Proofs

theorem c16 (xs : List Int) (hl : xs.length ≤ 1048576) : Good Try.prog 16 [eB xs] (.ref (0, none) 0 xs.length) [⟨5, 1, xs.map cB⟩] := by
  refine good_of (E := En 22) (fn := Try.f16) (by kernel_rfl) (by kernel_rfl) rfl rfl (by simp only [List.length_cons, List.length_nil]; decide) (fun C0 => ?_)
  simp only [argT, Nat.reduceAdd, eB]
  refine ev_seq fun K1 h1 => ev_rf mB ?_
  repeat refine dr_act wN mb ma mc mT mR ?_
  refine dr_nil (h1 _ ?_); clear h1 K1
  refine ev_seq fun K1 h1 => ev_rf mB ?_
  repeat refine dr_act wN mb ma mc mT mR ?_
  refine dr_act wN mb ma (by omega) mT mR ?_
  repeat refine dr_act wN mb ma mc mT mR ?_
  refine dr_nil (h1 _ ?_); clear h1 K1
  refine ev_seq fun K1 h1 => ?_
  refine ev_seq fun K2 h2 => ev_rf mB ?_
  repeat refine dr_act wN mb ma mc mT mR ?_
  refine dr_nil (h2 _ ?_); clear h2 K2
  refine ev_block (ev_loop (α := {i : Nat // i ≤ xs.length}) (fun i => ⟨[(0, .list 1 (xs.map cB)), (3, .ref (24, none) 0 xs.length), (4, vi i.1)], [(24, ⟨5, 1, (soFar 0 xs i.1).map cB⟩)], 48⟩) (fun i => xs.length - i.1) ⟨0, Nat.zero_le _⟩ (weak_ren [] mK (chkRm rfl (by decide) (by rw [soFar_zero, List.map_replicate]) (fun _ => rfl) (fun _ => rfl) mK) mD mQ) (fun ⟨i, hi⟩ => ?_))
  refine ev_seq fun K2 h2 => ev_seq fun K3 h3 => ev_rf mB ?_
  repeat refine dr_act wN mb ma mc mT mR ?_
  refine dr_nil (h3 _ ?_); clear h3
  refine ev_cond _ ml (fun h => ev_skip (h2 _ ?_)) (fun h => ev_exit ?_)
  · clear h1 h2
    have hlt : i < xs.length := by have := of_decide_eq_true h; omega
    refine ev_seq fun K2 h2 => ev_block (ev_rf mB ?_)
    repeat refine dr_act wN mb ma mc mT mR ?_
    refine dr_ix (0 : Int) wN mr mb ml ml mS (by omega) mT ?_
    repeat refine dr_act wN mb ma mc mT mR ?_
    refine dr_ixp wN mr mb ml ml mr mS (by omega) (Nat.zero_add _) mT ?_
    refine dr_stp (zs := (soFar 0 xs (i + 1)).map cB) wN mr mb ml mr mr ml ⟨rfl, rfl⟩ mZ ⟨by rw [List.length_map, Int.toNat_natCast, soFar_length hi]; exact hlt, Nat.le_refl 1⟩ ?_ mr mT mR ?_
    · rw [Int.toNat_natCast, ← soFar_set (d := 0) hlt]
      exact set_put 0 (by rw [soFar_length hi]; exact hlt) rfl
    refine dr_nil (h2 _ (ev_rf mB ?_)); clear h2
    repeat refine dr_act wN mb ma mc mT mR ?_
    refine dr_nil ⟨⟨i + 1, by omega⟩, by simp only []; omega, ?_⟩
    rw [w64p (n := xs.length) (by omega) (by omega)]
    exact weak_ren [] mK (chkRm rfl (by decide) rfl (fun _ => rfl) (fun _ => rfl) mK) mD mQ
  · simp only [seqK, loopK, blkK, ↓reduceIte]
    refine h1 _ ?_; clear h1 h2
    have hge := of_decide_eq_false h
    obtain rfl : i = xs.length := by omega
    refine ev_seq fun K1 h1 => ev_rf mB ?_
    repeat refine dr_act wN mb ma mc mT mR ?_
    refine dr_nil (h1 _ (ev_ret ?_)); clear h1
    refine retR [24] [2] (hv := rfl) (hR := ⟨⟨?_, ?_⟩, trivial⟩)
    · show some (Root.mk 5 1 ((soFar 0 xs xs.length).map cB)) = _
      rw [soFar_full]
    · exact pure_map fun _ => rfl
end Go.Ev
namespace Go.Ev
open Go Go.RowKit Go.Proofs

/-- A row, or none yet. -/
def cO : Option (List Int) → List V
  | some l => cR l
  | none => [.val (.slice none 0 0)]

theorem weak_trans {E : Env} {C0 : Cx} {a b c : St} (h : Weak E C0 a b) (k : Weak E C0 b c) : Weak E C0 a c := fun x w hx => k x w (h x w hx)

theorem c120 (m : List (List Int)) (hl : m.length ≤ 1048576) (hr : ∀ r, r ∈ m → r.length ≤ 1048576) : Good Try.prog 120 [eM m] (.ref (0, none) 0 m.length) [rM m] := by
  refine good_of (E := En 23) (fn := Try.f120) (by kernel_rfl) (by kernel_rfl) rfl rfl (by simp only [List.length_cons, List.length_nil]; decide) (fun C0 => ?_)
  simp only [argT, Nat.reduceAdd, eM]
  refine ev_seq fun K1 h1 => ev_rf mB ?_
  repeat refine dr_act wN mb ma mc mT mR ?_
  refine dr_nil (h1 _ ?_); clear h1 K1
  refine ev_seq fun K1 h1 => ev_rf mB ?_
  repeat refine dr_act wN mb ma mc mT mR ?_
  refine dr_act wN mb ma (by omega) mT mR ?_
  repeat refine dr_act wN mb ma mc mT mR ?_
  refine dr_nil (h1 _ ?_); clear h1 K1
  refine ev_seq fun K1 h1 => ?_
  refine ev_seq fun K2 h2 => ev_rf mB ?_
  repeat refine dr_act wN mb ma mc mT mR ?_
  refine dr_nil (h2 _ ?_); clear h2 K2
  have hlm : (m.map some).length = m.length := List.length_map ..
  refine ev_block (ev_loop (α := {i : Nat // i ≤ m.length}) (fun i => ⟨[(0, .list 1 (m.map cM)), (3, .ref (24, none) 0 m.length), (4, vi i.1)], [(24, ⟨29, 1, (soFar none (m.map some) i.1).map cO⟩)], 48⟩) (fun i => m.length - i.1) ⟨0, Nat.zero_le _⟩ (weak_ren [] mK (chkRm rfl (by decide) (by rw [soFar_zero, List.map_replicate, hlm]; rfl) (fun a => by cases a <;> rfl) (fun a => by cases a <;> simp [cO, okC]) mK) mD mQ) (fun ⟨i, hi⟩ => ?_))
  refine ev_seq fun K2 h2 => ev_seq fun K3 h3 => ev_rf mB ?_
  repeat refine dr_act wN mb ma mc mT mR ?_
  refine dr_nil (h3 _ ?_); clear h3
  refine ev_cond _ ml (fun h => ev_skip (h2 _ ?_)) (fun h => ev_exit ?_)
  · clear h1 h2
    have hlt : i < m.length := by have := of_decide_eq_true h; omega
    have hsl : (soFar none (m.map some) i).length = m.length := by rw [soFar_length (by omega), hlm]
    refine ev_seq fun K2 h2 => ev_block (ev_rf mB ?_)
    repeat refine dr_act wN mb ma mc mT mR ?_
    refine dr_ix ([] : List Int) wN mr mb ml ml mS (by omega) mT ?_
    repeat refine dr_act wN mb ma mc mT mR ?_
    have hri : (m.getD i []).length ≤ 1048576 := by
      rw [List.getD_eq_getElem?_getD, List.getElem?_eq_getElem hlt]; exact hr _ (List.getElem_mem hlt)
    refine dr_callF wN mr mb mx mr (c16 (m.getD i []) hri) (Nat.le_of_ble_eq_true rfl) mv mT mN ?_
    refine dr_ixp wN mr mb ml ml mr mS (by omega) (Nat.zero_add _) mT ?_
    refine dr_stp (zs := ((soFar none (m.map some) i).map cO).set i [.ref (128, none) 0 (m.getD i []).length]) wN mr mb ml mr mr ml ⟨rfl, rfl⟩ mZ ⟨by rw [List.length_map, Int.toNat_natCast, hsl]; exact hlt, Nat.le_refl 1⟩ ?_ mr mT mR ?_
    · rw [Int.toNat_natCast]
      congr 1
      rw [getD_mapL none [] (by omega)]
      have : (soFar none (m.map some) i).getD i none = none := by
        simp [soFar, List.getD_eq_getElem?_getD, List.getElem?_append, hlt, Nat.min_eq_left (Nat.le_of_lt hlt), List.getElem?_replicate]
        split <;> rfl
      rw [this]; rfl
    refine dr_nil (h2 _ (ev_rf mB ?_)); clear h2
    repeat refine dr_act wN mb ma mc mT mR ?_
    refine dr_nil ⟨⟨i + 1, by omega⟩, by simp only []; omega, ?_⟩
    rw [w64p (n := m.length) (by omega) (by omega)]
    have hset : (((soFar none (m.map some) i).map cO).set i [.ref (128, none) 0 (m.getD i []).length])[i]? = some [.ref (128, none) 0 (m.getD i []).length] := by
      rw [List.getElem?_set, if_pos rfl, if_pos (by rw [List.length_map, hsl]; exact hlt)]
    refine weak_trans (weak_abs 24 128 i 0 (b' := 1000) mr mr (by decide) hset rfl (List.length_map ..).symm (by simp [noN0]) rfl rfl (by decide)) ?_
    refine weak_ren [(24, 176)] mK (chkRm rfl (by decide) ?_ (fun a => by cases a <;> rfl) (fun a => by cases a <;> simp [cO, okC]) mK) mD mQ
    have e1 : (m.map some).getD i none = some (m.getD i []) := by simp [List.getD_eq_getElem?_getD, hlt]
    rw [← soFar_set (d := none) (by omega), e1, ← set_map]
    simp only [absR, setP, getD_of_get hset, List.set_set, List.set_cons_zero]
    rfl
  · simp only [seqK, loopK, blkK, ↓reduceIte]
    refine h1 _ ?_; clear h1 h2
    have hge := of_decide_eq_false h
    obtain rfl : i = m.length := by omega
    refine ev_seq fun K1 h1 => ev_rf mB ?_
    repeat refine dr_act wN mb ma mc mT mR ?_
    refine dr_nil (h1 _ (ev_ret ?_)); clear h1
    refine retR [24] [2] (hv := rfl) (hR := ⟨⟨?_, ?_⟩, trivial⟩)
    · show some (Root.mk 29 1 ((soFar none (m.map some) m.length).map cO)) = _
      rw [← hlm, soFar_full, List.map_map]; rfl
    · refine pure_map fun r => ?_
      simp [pcell]
end Go.Ev
namespace Go.Ev
open Go Go.RowKit Go.Proofs

theorem c85 (w : Win) : Good Try.prog 85 [eW w] (eW w) [] := by
  refine good_of (E := En 17) (fn := Try.f85) (by kernel_rfl) (by kernel_rfl) rfl rfl (by simp only [List.length_cons, List.length_nil]; decide) (fun C0 => ?_)
  simp only [argT, Nat.reduceAdd]
  iterate 7
    refine ev_seq fun K1 h1 => ev_rf mB ?_
    repeat refine dr_act wN mb ma mc mT mR ?_
    refine dr_nil (h1 _ ?_); clear h1 K1
  refine ev_ret ?_
  exact retC [] (hR := trivial)

theorem c58 (m : List (List Int)) (hl : m.length ≤ 1048576) (hr : ∀ r, r ∈ m → r.length ≤ 1048576) : Good Try.prog 58 [eMem m] (.agg [.ref (0, none) 0 m.length]) [rM m] := by
  refine good_of (E := En 9) (fn := Try.f58) (by kernel_rfl) (by kernel_rfl) rfl rfl (by simp only [List.length_cons, List.length_nil]; decide) (fun C0 => ?_)
  simp only [argT, Nat.reduceAdd]
  iterate 2
    refine ev_seq fun K1 h1 => ev_rf mB ?_
    repeat refine dr_act wN mb ma mc mT mR ?_
    refine dr_nil (h1 _ ?_); clear h1 K1
  refine ev_seq fun K1 h1 => ev_rf mB ?_
  repeat refine dr_act wN mb ma mc mT mR ?_
  refine dr_callF wN mr mb mx mr (c120 m hl hr) (Nat.le_of_ble_eq_true rfl) mv mT mN ?_
  repeat refine dr_act wN mb ma mc mT mR ?_
  refine dr_nil (h1 _ ?_); clear h1 K1
  refine ev_seq fun K1 h1 => ev_rf mB ?_
  repeat refine dr_act wN mb ma mc mT mR ?_
  refine dr_nil (h1 _ (ev_ret ?_)); clear h1 K1
  refine retC [40] (hR := ⟨⟨rfl, pure_map fun r => by simp [pcell]⟩, trivial⟩)
end Go.Ev
namespace Go.Ev
open Go Go.RowKit Go.Proofs

/-- A gap: its memory, its window, its two marks. -/
structure Gp where
  m : List (List Int)
  w : Win
  p : Int
  q : Int
abbrev cG (x : V) (g : Gp) : List V := [x, vi g.w.a, vi g.w.s, vi g.w.n, vi g.w.c, vi g.p, vi g.q]
abbrev eG (g : Gp) : V := .agg (cG (eM g.m) g)
abbrev oG (n : Nat) (g : Gp) : V := .agg (cG (.ref (n, none) 0 g.m.length) g)

theorem c15 (g : Gp) (hl : g.m.length ≤ 1048576) (hr : ∀ r, r ∈ g.m → r.length ≤ 1048576) : Good Try.prog 15 [eG g] (oG 0 g) [rM g.m] := by
  refine good_of (E := En 19) (fn := Try.f15) (by kernel_rfl) (by kernel_rfl) rfl rfl (by simp only [List.length_cons, List.length_nil]; decide) (fun C0 => ?_)
  simp only [argT, Nat.reduceAdd]
  iterate 2
    refine ev_seq fun K1 h1 => ev_rf mB ?_
    repeat refine dr_act wN mb ma mc mT mR ?_
    refine dr_nil (h1 _ ?_); clear h1 K1
  refine ev_seq fun K1 h1 => ev_rf mB ?_
  repeat refine dr_act wN mb ma mc mT mR ?_
  refine dr_callF wN mr mb mx mr (c58 g.m hl hr) (Nat.le_of_ble_eq_true rfl) mv mT mN ?_
  repeat refine dr_act wN mb ma mc mT mR ?_
  refine dr_nil (h1 _ ?_); clear h1 K1
  refine ev_seq fun K1 h1 => ev_rf mB ?_
  repeat refine dr_act wN mb ma mc mT mR ?_
  refine dr_callF wN mr mb mx mr (c85 g.w) (Nat.le_of_ble_eq_true rfl) mv mT mN ?_
  repeat refine dr_act wN mb ma mc mT mR ?_
  refine dr_nil (h1 _ ?_); clear h1 K1
  iterate 3
    refine ev_seq fun K1 h1 => ev_rf mB ?_
    repeat refine dr_act wN mb ma mc mT mR ?_
    refine dr_nil (h1 _ ?_); clear h1 K1
  refine ev_ret ?_
  refine retC [40] (hR := ⟨⟨rfl, pure_map fun r => by simp [pcell]⟩, trivial⟩)
end Go.Ev
namespace Go.Ev
open Go Go.RowKit Go.Proofs

/-- The bytes that mark a row. -/
def mk8 (k : Int) (n : Nat) : List Int := (List.range n).map fun i => IntKind.u8.wrap (k + (i : Nat))

theorem mk8_set {k : Int} {xs : List Int} {i : Nat} (h : i < xs.length) : (mk8 k i ++ xs.drop i).set i (IntKind.u8.wrap (k + (i : Nat))) = mk8 k (i + 1) ++ xs.drop (i + 1) := by
  have hl : (mk8 k i).length = i := by simp [mk8]
  rw [List.set_append, if_neg (by omega), hl, Nat.sub_self]
  have e : xs.drop i = xs[i] :: xs.drop (i + 1) := List.drop_eq_getElem_cons h
  rw [e, List.set_cons_zero, mk8, mk8, List.range_succ, List.map_append]
  simp

theorem c21 (ty : TypeId) (xs : List Int) (k : Int) (hk : 0 ≤ k) (hk2 : k + xs.length ≤ 16000000) (hl : xs.length ≤ 1048576) :
    GoodR Try.prog 21 [.ref (0, none) 0 xs.length, vi k] [⟨ty, 1, xs.map cB⟩] (vi (k + xs.length)) [some ⟨ty, 1, (mk8 k xs.length).map cB⟩] := by
  refine goodR_of (E := En 20 1) (fn := Try.f21) (by kernel_rfl) (by kernel_rfl) rfl rfl (by simp only [List.length_cons, List.length_nil]; decide) ⟨rfl, Nat.le_refl 1⟩ rfl ⟨okMap (fun _ => rfl) _, trivial⟩ (fun C0 => ?_)
  simp only [argT, rsT, Nat.reduceAdd, List.length_cons, List.length_nil]
  refine ev_seq fun K1 h1 => ev_rf mB ?_
  repeat refine dr_act wN mb ma mc mT mR ?_
  refine dr_nil (h1 _ ?_); clear h1 K1
  refine ev_seq fun K1 h1 => ?_
  refine ev_seq fun K2 h2 => ev_rf mB ?_
  repeat refine dr_act wN mb ma mc mT mR ?_
  refine dr_nil (h2 _ ?_); clear h2 K2
  refine ev_block (ev_loop (α := {i : Nat // i ≤ xs.length}) (fun i => ⟨[(0, .ref (0, none) 0 xs.length), (1, vi (k + (i.1 : Nat))), (5, vi i.1)], [(0, ⟨ty, 1, (mk8 k i.1 ++ xs.drop i.1).map cB⟩)], 17⟩) (fun i => xs.length - i.1) ⟨0, Nat.zero_le _⟩ (weak_ren [] ?_ (chkRm rfl (by decide) (by simp [mk8]) (fun _ => rfl) (fun _ => rfl) mK) mD mQ) (fun ⟨i, hi⟩ => ?_))
  · simp only [Int.natCast_zero, Int.add_zero]; exact mK
  have hmm : (mk8 k i ++ xs.drop i).length = xs.length := by simp [mk8]; omega
  refine ev_seq fun K2 h2 => ev_seq fun K3 h3 => ev_rf mB ?_
  repeat refine dr_act wN mb ma mc mT mR ?_
  refine dr_nil (h3 _ ?_); clear h3
  refine ev_cond _ ml (fun h => ev_skip (h2 _ ?_)) (fun h => ev_exit ?_)
  · clear h1 h2
    have hlt : i < xs.length := by have := of_decide_eq_true h; omega
    refine ev_seq fun K2 h2 => ev_block (ev_seq fun K3 h3 => ev_rf mB ?_)
    repeat refine dr_act wN mb ma mc mT mR ?_
    refine dr_ixp wN mr mb ml ml mr mS (by omega) (Nat.zero_add _) mT ?_
    refine dr_stp (zs := (mk8 k (i + 1) ++ xs.drop (i + 1)).map cB) wN mr mb ml mr mr ml ⟨rfl, rfl⟩ mZ ⟨by rw [List.length_map, Int.toNat_natCast, hmm]; exact hlt, Nat.le_refl 1⟩ ?_ mr mT mR ?_
    · rw [Int.toNat_natCast, ← mk8_set hlt]
      exact set_put 0 (by rw [hmm]; exact hlt) rfl
    refine dr_nil (h3 _ (ev_rf mB ?_)); clear h3
    repeat refine dr_act wN mb ma mc mT mR ?_
    refine dr_nil (h2 _ (ev_rf mB ?_)); clear h2
    repeat refine dr_act wN mb ma mc mT mR ?_
    refine dr_nil ⟨⟨i + 1, by omega⟩, by simp only []; omega, ?_⟩
    rw [w64p (n := xs.length) (by omega) (by omega)]
    have hw : IntKind.i64.wrap (k + (i : Nat) + 1) = k + ((i + 1 : Nat) : Int) := by rw [wrap_of (by omega) (by omega)]; omega
    rw [hw]
    exact weak_ren [] mK (chkRm rfl (by decide) rfl (fun _ => rfl) (fun _ => rfl) mK) mD mQ
  · simp only [seqK, loopK, blkK, ↓reduceIte]
    refine h1 _ ?_; clear h1 h2
    have hge := of_decide_eq_false h
    obtain rfl : i = xs.length := by omega
    refine ev_seq fun K1 h1 => ev_rf mB ?_
    repeat refine dr_act wN mb ma mc mT mR ?_
    refine dr_nil (h1 _ (ev_ret ?_)); clear h1
    refine retRT [] [4] (hR := ⟨⟨_, rfl, rfl, rfl, ?_⟩, trivial⟩)
    rw [← rnMap (fun _ => rfl)]
    simp
end Go.Ev
