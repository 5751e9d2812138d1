/- Part 0 of the proof: the evaluator and the contracts of functions. -/
import Derived.Below
import Derived.KernelRfl
import Derived.Laws.AppendOwn
import Derived.Laws.CopyRow
import Derived.Laws.Entries
import Derived.Laws.IdiomCopy
import Derived.Laws.MakeOwn
import Derived.Laws.OwnMore
set_option linter.unusedVariables false
set_option linter.unusedSimpArgs false
namespace Go.Ev
open Go

abbrev Pl := Nat × Option (Nat × Nat)

/-- Abstract values. -/
inductive V where
  | any
  | val (v : Value)
  | agg (cs : List V)
  | tup (cs : List V)
  | list (sz : Nat) (xs : List (List V))
  | row (sz : Nat) (xs : List (List V))
  | ref (p : Pl) (off len : Nat)
  | ptr (p : Pl) (i j : Nat)
  | ept (x : List V) (j : Nat)
  | clo (f : FuncId) (cs : List V)
  deriving Inhabited

def V.cells : V → List V
  | .agg cs => cs
  | x => [x]

structure Root where
  ty : TypeId
  sz : Nat
  els : List (List V)

abbrev Rs := Nat → Option Root

/-- What is known of a type: struct or array, its cells, a slice's element, the fields (offset, cells, struct or array), the zero value's cells, an element's bytes; k: 1 bool, 2 string. -/
structure TI where
  agg : Bool
  sz : Nat
  elem : Nat
  fs : List (Nat × Nat × Bool)
  zero : List Value
  bytes : Nat
  k : Nat := 0
  hp : Bool := false
  ik : Option IntKind := none

structure St where
  T : List (Nat × V)
  R : List (Nat × Root)
  b : Nat

def lookT : List (Nat × V) → Nat → V
  | [], _ => .any
  | (k, v) :: t, n => if k = n then v else lookT t n

def lookR : List (Nat × Root) → Nat → Option Root
  | [], _ => none
  | (k, r) :: t, n => if k = n then some r else lookR t n

def dropR : List (Nat × Root) → Nat → List (Nat × Root)
  | [], _ => []
  | (k, r) :: t, n => if k = n then dropR t n else (k, r) :: dropR t n

def lookO (nt : Nat) (T : Nat → V) : Operand → V
  | .tmp t => if t < nt then T t else .any
  | .const v => .val v
  | .func f => .val (.func (.func f) #[] #[])
  | .global _ => .any

/-- A place's elements. -/
def getP (R : Rs) (p : Pl) : Option (Nat × List (List V)) :=
  match R p.1 with
  | none => none
  | some r =>
    match p.2 with
    | none => some (r.sz, r.els)
    | some (i, j) =>
      match (r.els.getD i []).getD j .any with
      | .row sz xs => some (sz, xs)
      | _ => none

/-- Cells into cells, from a place on. -/
def putCells : List V → Nat → List V → List V
  | cs, _, [] => cs
  | cs, j, x :: xs => putCells (cs.set j x) (j + 1) xs

def setP (r : Root) (q : Option (Nat × Nat)) (xs : List (List V)) : Root :=
  match q with
  | none => { r with els := xs }
  | some (i, j) =>
    match (r.els.getD i []).getD j .any with
    | .row sz _ => { r with els := r.els.set i ((r.els.getD i []).set j (.row sz xs)) }
    | _ => r

/-- A cell that is read: an inner row is seen as a slice of its own. -/
def cellAt (p : Pl) (i j : Nat) : V → V
  | .row _ xs => match p.2 with | none => .ref (p.1, some (i, j)) 0 xs.length | _ => .any
  | x => x

def cellsAt (p : Pl) (i : Nat) : Nat → List V → List V
  | _, [] => []
  | j, c :: cs => cellAt p i j c :: cellsAt p i (j + 1) cs

/-- One value out of cells. -/
def ofCells (agg : Bool) (cs : List V) : Option V :=
  match agg, cs with
  | true, cs => some (.agg cs)
  | false, [c] => some c
  | false, _ => none

/-- A value that is one cell. -/
def oneV : V → Bool
  | .val v => v.oneCell'
  | .list .. | .ref .. | .ptr .. | .ept .. | .clo .. => true
  | _ => false

theorem add_block (a : Addr) (n : Nat) : (a.add n).block = a.block := by unfold Addr.add; split <;> rfl
theorem add_mk (g o n : Nat) : (⟨g, o, none⟩ : Addr).add n = ⟨g, o + n, none⟩ := by unfold Addr.add; split <;> simp_all
theorem add_add (a : Addr) (m n : Nat) : (a.add m).add n = a.add (m + n) := by
  unfold Addr.add
  by_cases h : m = 0
  · subst h; simp
  · by_cases k : n = 0
    · subst k; simp [h]
    · simp [h, k, Nat.add_assoc]

/-- The concrete side of a state: world, frozen blocks, the blocks of places, roots, names in use. -/
structure Cx where
  w : World
  F : Nat → Prop
  io : Pl → Option Nat
  R : Rs
  A : Nat → Prop

/-- A frozen value reads as told. -/
inductive Rd (w : World) (F : Nat → Prop) : Value → V → Prop
  | any (v : Value) : Rd w F v .any
  | val (v : Value) : Rd w F v (.val v)
  | agg {vs : Array Value} {cs : List V} (hl : vs.size = cs.length) (h : ∀ (i : Nat) v c, vs[i]? = some v → cs[i]? = some c → Rd w F v c) : Rd w F (.agg vs) (.agg cs)
  | tup {vs : Array Value} {cs : List V} (hl : vs.size = cs.length) (h : ∀ (i : Nat) v c, vs[i]? = some v → cs[i]? = some c → Rd w F v c) : Rd w F (.tuple vs) (.tup cs)
  | list {a : Option Addr} {len cap sz : Nat} {xs : List (List V)} (ad : Addr) (f : Nat → Nat → Value) (hl : xs.length = len) (hm : len ≤ maxLen) (hcap : len ≤ cap) (hs : ∀ x, x ∈ xs → x.length = sz)
      (ha : 0 < len → a = some ad) (hF : 0 < len → F ad.block)
      (hc : ∀ (i : Nat) x (j : Nat) c, xs[i]? = some x → x[j]? = some c → w.cell? (ad.add (i * sz + j)) = some (f i j) ∧ (f i j).oneCell' = true)
      (h : ∀ (i : Nat) x (j : Nat) c, xs[i]? = some x → x[j]? = some c → Rd w F (f i j) c) : Rd w F (.slice a len cap) (.list sz xs)
  | ept {ad : Addr} {x : List V} {j : Nat} (f : Nat → Value) (hF : F ad.block) (hc : ∀ (k : Nat) c, x[j + k]? = some c → w.cell? (ad.add k) = some (f k) ∧ (f k).oneCell' = true)
      (h : ∀ (k : Nat) c, x[j + k]? = some c → Rd w F (f k) c) : Rd w F (.pointer (some ad)) (.ept x j)
  | clo {f : FuncId} {vs : Array Value} {cs : List V} (hl : vs.size = cs.length) (h : ∀ (i : Nat) v c, vs[i]? = some v → cs[i]? = some c → Rd w F v c) : Rd w F (.func (.func f) #[] vs) (.clo f cs)

theorem Rd.mono {w w' : World} {F F' : Nat → Prop} (hw : ∀ b, F b → w'.heap[b]? = w.heap[b]?) (hF : ∀ b, F b → F' b) {v : Value} {x : V} (h : Rd w F v x) : Rd w' F' v x := by
  induction h with
  | any v => exact .any v
  | val v => exact .val v
  | agg hl h ih => exact .agg hl ih
  | tup hl h ih => exact .tup hl ih
  | list ad f hl hm hcap hs ha hFb hc h ih =>
    refine .list ad f hl hm hcap hs ha (fun h => hF _ (hFb h)) (fun i x j c hi hj => ?_) ih
    have hpos := Nat.lt_of_le_of_lt (Nat.zero_le _) (List.getElem?_eq_some_iff.1 hi).1
    rw [hl] at hpos
    refine ⟨?_, (hc i x j c hi hj).2⟩
    rw [← (hc i x j c hi hj).1]
    apply World.cell?_of_block
    rw [add_block]
    exact hw _ (hFb hpos)
  | ept f hFb hc h ih =>
    refine .ept f (hF _ hFb) (fun k c hk => ?_) ih
    refine ⟨?_, (hc k c hk).2⟩
    rw [← (hc k c hk).1]
    apply World.cell?_of_block
    rw [add_block]
    exact hw _ hFb
  | clo hl h ih => exact .clo hl ih

/-- A slice of a place. -/
def SlAt (C : Cx) (p : Pl) (sz : Nat) (xs : List (List V)) (a : Option Addr) (off len cap : Nat) : Prop :=
  off + len ≤ xs.length ∧ len ≤ cap ∧ cap ≤ maxLen ∧
  (C.io p = none → a = none ∧ cap = 0) ∧
  ∀ g, C.io p = some g → (0 < cap ∨ off = 0 → a = some ⟨g, off * sz, none⟩) ∧ a ≠ none ∧ ∃ cs ty, C.w.heap[g]? = some (.cells cs ty (0, 0)) ∧ (off + cap) * sz = cs.size

inductive VR (C : Cx) : Value → V → Prop
  | fro {v : Value} {x : V} (h : Rd C.w C.F v x) : VR C v x
  | agg {vs : Array Value} {cs : List V} (hl : vs.size = cs.length) (h : ∀ (i : Nat) v c, vs[i]? = some v → cs[i]? = some c → VR C v c) : VR C (.agg vs) (.agg cs)
  | tup {vs : Array Value} {cs : List V} (hl : vs.size = cs.length) (h : ∀ (i : Nat) v c, vs[i]? = some v → cs[i]? = some c → VR C v c) : VR C (.tuple vs) (.tup cs)
  | clo {f : FuncId} {vs : Array Value} {cs : List V} (hl : vs.size = cs.length) (h : ∀ (i : Nat) v c, vs[i]? = some v → cs[i]? = some c → VR C v c) : VR C (.func (.func f) #[] vs) (.clo f cs)
  | ref {a : Option Addr} {len cap : Nat} {p : Pl} {off : Nat} (hA : C.A p.1) (h : ∀ sz xs, getP C.R p = some (sz, xs) → SlAt C p sz xs a off len cap) : VR C (.slice a len cap) (.ref p off len)
  | ptr {ad : Addr} {p : Pl} {i j : Nat} (hA : C.A p.1) (h : ∀ sz xs, getP C.R p = some (sz, xs) → ∃ g, C.io p = some g ∧ ad = ⟨g, i * sz + j, none⟩) : VR C (.pointer (some ad)) (.ptr p i j)

/-- What a later state keeps. -/
structure Ext (C C' : Cx) : Prop where
  fr : ∀ b, C.F b → C'.w.heap[b]? = C.w.heap[b]?
  F : ∀ b, C.F b → C'.F b
  A : ∀ n, C.A n → C'.A n
  pl : ∀ p, C.A p.1 → ∀ sz xs', getP C'.R p = some (sz, xs') → ∃ xs, getP C.R p = some (sz, xs) ∧ xs.length ≤ xs'.length ∧ C'.io p = C.io p ∧
    ∀ g, C.io p = some g → ∀ cs ty, C.w.heap[g]? = some (.cells cs ty (0, 0)) → ∃ cs', C'.w.heap[g]? = some (.cells cs' ty (0, 0)) ∧ cs'.size = cs.size

theorem VR.ext {C C' : Cx} (e : Ext C C') {v : Value} {x : V} (h : VR C v x) : VR C' v x := by
  induction h with
  | fro h => exact .fro (h.mono e.fr e.F)
  | agg hl h ih => exact .agg hl ih
  | tup hl h ih => exact .tup hl ih
  | clo hl h ih => exact .clo hl ih
  | ref hA h =>
    refine .ref (e.A _ hA) (fun sz xs' hp => ?_)
    obtain ⟨xs, h1, h2, h3, h4⟩ := e.pl _ hA sz xs' hp
    obtain ⟨k1, k2, k3, k4⟩ := h sz xs h1
    refine ⟨Nat.le_trans k1 h2, k2, k3, fun hn => k4.1 (h3 ▸ hn), fun g hg => ?_⟩
    rw [h3] at hg
    obtain ⟨m1, m2, cs, ty, m3, m4⟩ := k4.2 g hg
    obtain ⟨cs', n1, n2⟩ := h4 g hg cs ty m3
    exact ⟨m1, m2, cs', ty, n1, by rw [n2]; exact m4⟩
  | ptr hA h =>
    refine .ptr (e.A _ hA) (fun sz xs' hp => ?_)
    obtain ⟨xs, h1, h2, h3, h4⟩ := e.pl _ hA sz xs' hp
    rw [h3]
    exact h sz xs h1

/-- A cell of a place. -/
def ClR (C : Cx) (p : Pl) (i j : Nat) (v : Value) (c : V) : Prop :=
  match c with
  | .row _ xs => p.2 = none ∧ VR C v (.ref (p.1, some (i, j)) 0 xs.length)
  | c => VR C v c

/-- A place and its block. -/
def PlR (C : Cx) (p : Pl) (sz : Nat) (xs : List (List V)) : Prop :=
  (∀ x, x ∈ xs → x.length = sz) ∧
  (C.io p = none → xs = []) ∧
  ∀ g, C.io p = some g → ∃ cs ty, C.w.heap[g]? = some (.cells cs ty (0, 0)) ∧ (p.2 = none → ∀ r, C.R p.1 = some r → r.ty = ty) ∧ xs.length * sz ≤ cs.size ∧
      ∀ (i : Nat) x (j : Nat) c, xs[i]? = some x → x[j]? = some c → ∃ v, cs[i * sz + j]? = some v ∧ v.oneCell' = true ∧ ClR C p i j v c

def Act? (C : Cx) (p : Pl) : Prop := (getP C.R p).isSome

structure Sat (C : Cx) : Prop where
  pl : ∀ p sz xs, getP C.R p = some (sz, xs) → PlR C p sz xs
  inj : ∀ p q g, Act? C p → Act? C q → C.io p = some g → C.io q = some g → p = q
  own : ∀ p g, Act? C p → C.io p = some g → ¬ C.F g
  lt : ∀ b, C.F b → b < C.w.heap.size
  nm : ∀ n r, C.R n = some r → C.A n

/-- The blocks that are owned. -/
def Owned (C : Cx) (b : Nat) : Prop := ∃ p, Act? C p ∧ C.io p = some b

theorem Sat.owned_lt {C : Cx} (h : Sat C) {b : Nat} (hb : Owned C b) : b < C.w.heap.size := by
  obtain ⟨p, hp, hi⟩ := hb
  obtain ⟨⟨sz, xs⟩, e⟩ := Option.isSome_iff_exists.1 hp
  obtain ⟨cs, ty, h1, _⟩ := (h.pl p sz xs e).2.2 b hi
  exact (Array.getElem?_eq_some_iff.1 h1).1

/-- What a step leaves: the streams, all old blocks that are not owned. -/
structure Fr (C C' : Cx) : Prop where
  os : C'.w.os = C.w.os
  tape : C'.w.tape = C.w.tape
  output : C'.w.output = C.w.output
  size : C.w.heap.size ≤ C'.w.heap.size
  block : ∀ b, b < C.w.heap.size → ¬ Owned C b → C'.w.heap[b]? = C.w.heap[b]?
  own : ∀ b, Owned C' b → Owned C b ∨ C.w.heap.size ≤ b
  F : ∀ b, C'.F b → C.F b ∨ Owned C b ∨ C.w.heap.size ≤ b

theorem Fr.refl (C : Cx) : Fr C C := ⟨rfl, rfl, rfl, Nat.le_refl _, fun _ _ _ => rfl, fun _ h => .inl h, fun _ h => .inl h⟩
theorem Fr.trans {a b c : Cx} (h : Fr a b) (k : Fr b c) : Fr a c := by
  refine ⟨k.os.trans h.os, k.tape.trans h.tape, k.output.trans h.output, Nat.le_trans h.size k.size, fun n hn ho => ?_, fun n hn => ?_, fun n hn => ?_⟩
  · rw [k.block n (Nat.lt_of_lt_of_le hn h.size) (fun hb => (h.own n hb).elim ho (fun hc => by omega))]
    exact h.block n hn ho
  · rcases k.own n hn with h1 | h1
    · exact h.own n h1
    · exact .inr (Nat.le_trans h.size h1)
  · rcases k.F n hn with h1 | h1 | h1
    · exact h.F n h1
    · exact .inr (h.own n h1)
    · exact .inr (.inr (Nat.le_trans h.size h1))

end Go.Ev
namespace Go.Ev
open Go

theorem getP_congr {R R' : Rs} {p : Pl} (h : R p.1 = R' p.1) : getP R p = getP R' p := by
  unfold getP; rw [h]

theorem getP_some {R : Rs} {p : Pl} {x} (h : getP R p = some x) : ∃ r, R p.1 = some r := by
  unfold getP at h
  cases e : R p.1 with
  | none => simp [e] at h
  | some r => exact ⟨r, rfl⟩

theorem ClR.ext {C C' : Cx} (e : Ext C C') {p : Pl} {i j : Nat} {v : Value} {c : V} (h : ClR C p i j v c) : ClR C' p i j v c := by
  cases c <;> first | exact VR.ext e h | exact ⟨h.1, VR.ext e h.2⟩

/-- A step's new context: a new root, some roots ended. -/
def mkCx (C : Cx) (w' : World) (D : List Nat) (b : Nat) (r : Root) (pl : Option (Nat × Nat) → Option Nat) : Cx where
  w := w'
  F := C.F
  io := fun p => if p.1 = b then pl p.2 else C.io p
  R := fun n => if n = b then some r else if n ∈ D then none else C.R n
  A := fun n => C.A n ∨ n = b

/-- The blocks that the ended roots own. -/
def OwnD (C : Cx) (D : List Nat) (k : Nat) : Prop := ∃ p, Act? C p ∧ p.1 ∈ D ∧ C.io p = some k

structure Same (w w' : World) : Prop where
  os : w'.os = w.os
  tape : w'.tape = w.tape
  output : w'.output = w.output
  size : w.heap.size ≤ w'.heap.size

theorem mk_ext {C : Cx} (hC : Sat C) {w' : World} {D : List Nat} {b : Nat} {r : Root} {pl : Option (Nat × Nat) → Option Nat} (hb : ¬ C.A b) (hw : Same C.w w')
    (hblk : ∀ k, k < C.w.heap.size → ¬ OwnD C D k → w'.heap[k]? = C.w.heap[k]?) : Ext C (mkCx C w' D b r pl) := by
  refine ⟨fun k hk => hblk k (hC.lt k hk) ?_, fun _ h => h, fun _ h => .inl h, fun p hA sz xs' hp => ?_⟩
  · rintro ⟨p, h1, _, h2⟩
    exact hC.own p k h1 h2 hk
  · have hne : p.1 ≠ b := fun e => hb (e ▸ hA)
    obtain ⟨r', hr⟩ := getP_some hp
    have hr' := hr
    simp only [mkCx, if_neg hne] at hr'
    by_cases hD : p.1 ∈ D
    · rw [if_pos hD] at hr'; cases hr'
    · rw [if_neg hD] at hr'
      have hg : getP C.R p = some (sz, xs') := by
        rw [← hp]; exact getP_congr (hr'.trans hr.symm)
      refine ⟨xs', hg, Nat.le_refl _, by simp [mkCx, hne], fun g hio cs ty hh => ?_⟩
      have hact : Act? C p := by unfold Act?; rw [hg]; rfl
      have hlt := hC.owned_lt ⟨p, hact, hio⟩
      refine ⟨cs, ?_, rfl⟩
      show w'.heap[g]? = _
      rw [hblk g hlt, hh]
      rintro ⟨q, hq, hqD, hqi⟩
      exact hD ((hC.inj p q g hact hq hio hqi) ▸ hqD)

theorem mk_sat {C : Cx} (hC : Sat C) {w' : World} {D : List Nat} {b : Nat} {r : Root} {pl : Option (Nat × Nat) → Option Nat} (hb : ¬ C.A b) (hw : Same C.w w')
    (hblk : ∀ k, k < C.w.heap.size → ¬ OwnD C D k → w'.heap[k]? = C.w.heap[k]?)
    (hnew : Ext C (mkCx C w' D b r pl) → ∀ q sz xs, getP (mkCx C w' D b r pl).R (b, q) = some (sz, xs) → PlR (mkCx C w' D b r pl) (b, q) sz xs)
    (hinj : ∀ q q' g, Act? (mkCx C w' D b r pl) (b, q) → Act? (mkCx C w' D b r pl) (b, q') → pl q = some g → pl q' = some g → q = q')
    (hown : ∀ q g, Act? (mkCx C w' D b r pl) (b, q) → pl q = some g → C.w.heap.size ≤ g ∨ OwnD C D g) :
    Sat (mkCx C w' D b r pl) ∧ Ext C (mkCx C w' D b r pl) ∧ Fr C (mkCx C w' D b r pl) := by
  have he := mk_ext (r := r) (pl := pl) hC hb hw hblk
  have old : ∀ p sz xs, p.1 ≠ b → getP (mkCx C w' D b r pl).R p = some (sz, xs) → p.1 ∉ D ∧ getP C.R p = some (sz, xs) ∧ C.R p.1 = (mkCx C w' D b r pl).R p.1 := by
    intro p sz xs hne hp
    obtain ⟨r', hr⟩ := getP_some hp
    have hr' := hr
    simp only [mkCx, if_neg hne] at hr'
    by_cases hD : p.1 ∈ D
    · rw [if_pos hD] at hr'; cases hr'
    · rw [if_neg hD] at hr'
      exact ⟨hD, by rw [← hp]; exact getP_congr (hr'.trans hr.symm), hr'.trans hr.symm⟩
  have olda : ∀ p, p.1 ≠ b → Act? (mkCx C w' D b r pl) p → p.1 ∉ D ∧ Act? C p := by
    intro p hne hp
    obtain ⟨⟨sz, xs⟩, e⟩ := Option.isSome_iff_exists.1 hp
    obtain ⟨h1, h2, _⟩ := old p sz xs hne e
    exact ⟨h1, by unfold Act?; rw [h2]; rfl⟩
  have notD : ∀ p g, p.1 ∉ D → Act? C p → C.io p = some g → ¬ OwnD C D g := by
    rintro p g hD hp hi ⟨q, hq, hqD, hqi⟩
    exact hD ((hC.inj p q g hp hq hi hqi) ▸ hqD)
  have hne' : ∀ p g, p.1 ≠ b → (mkCx C w' D b r pl).io p = some g → C.io p = some g := by
    intro p g h h'; simpa [mkCx, h] using h'
  have hb' : ∀ (q : Option (Nat × Nat)) g, (mkCx C w' D b r pl).io (b, q) = some g → pl q = some g := by
    intro q g h'; simpa [mkCx] using h'
  refine ⟨⟨?_, ?_, ?_, ?_, ?_⟩, he, ⟨hw.os, hw.tape, hw.output, hw.size, ?_, ?_, fun _ h => .inl h⟩⟩
  · intro p sz xs hp
    by_cases hpb : p.1 = b
    · obtain ⟨n, q⟩ := p
      simp only at hpb
      subst hpb
      exact hnew he q sz xs hp
    · obtain ⟨hD, hg, hR⟩ := old p sz xs hpb hp
      obtain ⟨k1, k2, k3⟩ := hC.pl p sz xs hg
      have hio : (mkCx C w' D b r pl).io p = C.io p := by simp [mkCx, hpb]
      refine ⟨k1, fun h => k2 (hio ▸ h), fun g hgi => ?_⟩
      rw [hio] at hgi
      obtain ⟨cs, ty, m1, m2, m3, m4⟩ := k3 g hgi
      have hact : Act? C p := by unfold Act?; rw [hg]; rfl
      refine ⟨cs, ty, ?_, fun hn r' hr' => m2 hn r' (hR.trans hr'), m3, fun i x j c h1 h2 => ?_⟩
      · show w'.heap[g]? = _
        rw [hblk g (hC.owned_lt ⟨p, hact, hgi⟩) (notD p g hD hact hgi), m1]
      · obtain ⟨v, n1, n3, n2⟩ := m4 i x j c h1 h2
        exact ⟨v, n1, n3, n2.ext he⟩
  · intro p q g hp hq hpi hqi
    obtain ⟨n, s⟩ := p
    obtain ⟨m, t⟩ := q
    by_cases h1 : n = b
    · subst h1
      have e1 := hb' s g hpi
      by_cases h2 : m = n
      · subst h2
        rw [hinj s t g hp hq e1 (hb' t g hqi)]
      · obtain ⟨hD, hqa⟩ := olda (m, t) h2 hq
        have e2 := hne' (m, t) g h2 hqi
        rcases hown s g hp e1 with h3 | h3
        · have := hC.owned_lt ⟨_, hqa, e2⟩; omega
        · exact absurd h3 (notD _ g hD hqa e2)
    · obtain ⟨hD, hpa⟩ := olda (n, s) h1 hp
      have e1 := hne' (n, s) g h1 hpi
      by_cases h2 : m = b
      · subst h2
        rcases hown t g hq (hb' t g hqi) with h3 | h3
        · have := hC.owned_lt ⟨_, hpa, e1⟩; omega
        · exact absurd h3 (notD _ g hD hpa e1)
      · obtain ⟨hD2, hqa⟩ := olda (m, t) h2 hq
        exact hC.inj _ _ g hpa hqa e1 (hne' (m, t) g h2 hqi)
  · intro p g hp hpi hF
    obtain ⟨n, s⟩ := p
    by_cases h1 : n = b
    · subst h1
      rcases hown s g hp (hb' s g hpi) with h3 | ⟨q, hq, _, hqi⟩
      · have := hC.lt g hF; omega
      · exact hC.own q g hq hqi hF
    · obtain ⟨hD, hpa⟩ := olda (n, s) h1 hp
      exact hC.own _ g hpa (hne' (n, s) g h1 hpi) hF
  · intro k hk
    exact Nat.lt_of_lt_of_le (hC.lt k hk) hw.size
  · intro n r' hr
    by_cases h1 : n = b
    · exact .inr h1
    · have hr' := hr
      simp only [mkCx, if_neg h1] at hr'
      by_cases hD : n ∈ D
      · rw [if_pos hD] at hr'; cases hr'
      · rw [if_neg hD] at hr'
        exact .inl (hC.nm n r' hr')
  · intro k hk ho
    refine hblk k hk ?_
    rintro ⟨p, h1, _, h2⟩
    exact ho ⟨p, h1, h2⟩
  · rintro k ⟨p, hp, hpi⟩
    obtain ⟨n, s⟩ := p
    by_cases h1 : n = b
    · subst h1
      rcases hown s k hp (hb' s k hpi) with h3 | ⟨q, hq, _, hqi⟩
      · exact .inr h3
      · exact .inl ⟨q, hq, hqi⟩
    · obtain ⟨hD, hpa⟩ := olda (n, s) h1 hp
      exact .inl ⟨(n, s), hpa, hne' (n, s) k h1 hpi⟩

/-- Only draws. -/
theorem same_drew {C : Cx} (hC : Sat C) (w' : World) (hw : Same C.w w') (hh : w'.heap = C.w.heap) : Sat { C with w := w' } ∧ Ext C { C with w := w' } ∧ Fr C { C with w := w' } := by
  have he : Ext C { C with w := w' } := ⟨fun k hk => by show w'.heap[k]? = _; rw [hh], fun _ h => h, fun _ h => h, fun p hA sz xs hp => ⟨xs, hp, Nat.le_refl _, rfl, fun g hg cs ty h => ⟨cs, by show w'.heap[g]? = _; rw [hh]; exact h, rfl⟩⟩⟩
  refine ⟨⟨fun p sz xs hp => ?_, hC.inj, hC.own, fun b hb => by show b < w'.heap.size; rw [hh]; exact hC.lt b hb, hC.nm⟩, he, ⟨hw.os, hw.tape, hw.output, hw.size, fun b _ _ => by show w'.heap[b]? = _; rw [hh], fun _ h => .inl h, fun _ h => .inl h⟩⟩
  obtain ⟨k1, k2, k3⟩ := hC.pl p sz xs hp
  refine ⟨k1, k2, fun g hg => ?_⟩
  obtain ⟨cs, ty, m1, m2, m3, m4⟩ := k3 g hg
  refine ⟨cs, ty, by show w'.heap[g]? = _; rw [hh]; exact m1, m2, m3, fun i x j c h1 h2 => ?_⟩
  obtain ⟨v, n1, n3, n2⟩ := m4 i x j c h1 h2
  exact ⟨v, n1, n3, n2.ext he⟩
end Go.Ev
namespace Go.Ev
open Go

theorem putCells_get : ∀ (ds : List V) (x : List V) (j m : Nat), (putCells x j ds)[m]? = if j ≤ m ∧ m < j + ds.length ∧ m < x.length then ds[m - j]? else x[m]?
  | [], x, j, m => by
    have : ¬ (j ≤ m ∧ m < j + ([] : List V).length ∧ m < x.length) := by simp; omega
    rw [if_neg this]; rfl
  | d :: ds, x, j, m => by
    rw [putCells, putCells_get ds]
    simp only [List.length_set, List.length_cons]
    by_cases h : j + 1 ≤ m ∧ m < j + 1 + ds.length ∧ m < x.length
    · rw [if_pos h, if_pos (by omega)]
      have : m - j = (m - (j + 1)) + 1 := by omega
      rw [this, List.getElem?_cons_succ]
    · rw [if_neg h, List.getElem?_set]
      by_cases hj : j = m
      · subst hj
        by_cases hx : j < x.length
        · rw [if_pos rfl, if_pos hx, if_pos (by omega)]; simp
        · rw [if_pos rfl, if_neg hx, if_neg (by omega)]
          rw [List.getElem?_eq_none (by omega)]
      · rw [if_neg hj, if_neg (by omega)]

theorem putCells_length : ∀ (ds : List V) (x : List V) (j : Nat), (putCells x j ds).length = x.length
  | [], x, j => rfl
  | d :: ds, x, j => by rw [putCells, putCells_length ds]; simp

theorem VR.not_row {C : Cx} {v : Value} {sz : Nat} {xs} (h : VR C v (.row sz xs)) : False := by
  cases h with
  | fro h => cases h

theorem getD_of_get {α : Type} {l : List α} {i : Nat} {x d : α} (h : l[i]? = some x) : l.getD i d = x := by simp [List.getD_eq_getElem?_getD, h]

theorem get_of_getD_row {x : List V} {j : Nat} {sz ys} (h : x.getD j .any = .row sz ys) : x[j]? = some (.row sz ys) := by
  rw [List.getD_eq_getElem?_getD] at h
  cases e : x[j]? with
  | none => rw [e] at h; cases h
  | some c => rw [e] at h; exact congrArg some h

/-- The roots behind a store. -/
def stR (R : Rs) (p : Pl) (r : Root) (ys : List (List V)) : Rs := fun n => if n = p.1 then some (setP r p.2 ys) else R n

theorem getP_store {R : Rs} {p : Pl} {r : Root} {sz : Nat} {xs ys : List (List V)} (hr : R p.1 = some r) (hp : getP R p = some (sz, xs)) (hl : ys.length = xs.length)
    (hrow : ∀ (a : Nat) y (b : Nat) s zs, ys[a]? = some y → y[b]? = some (.row s zs) → ∃ x, xs[a]? = some x ∧ x[b]? = some (.row s zs))
    {q : Pl} {s : Nat} {zs : List (List V)} (hq : getP (stR R p r ys) q = some (s, zs)) :
    (q = p ∧ s = sz ∧ zs = ys) ∨ (q ≠ p ∧ ∃ zs0, getP R q = some (s, zs0) ∧ zs.length = zs0.length ∧ (zs = zs0 ∨ ∃ a b x, q = (p.1, none) ∧ p.2 = some (a, b) ∧ zs0[a]? = some x ∧ x[b]? = some (.row sz xs) ∧ zs = zs0.set a (x.set b (.row sz ys)))) := by
  obtain ⟨n, t⟩ := p
  obtain ⟨m, u⟩ := q
  by_cases hmn : m = n
  · subst hmn
    simp only at hr
    cases t with
    | none =>
      simp only [getP, hr, Option.some.injEq, Prod.mk.injEq] at hp
      obtain ⟨rfl, rfl⟩ := hp
      cases u with
      | none =>
        left
        simp only [getP, stR, if_true, setP, Option.some.injEq, Prod.mk.injEq] at hq
        exact ⟨rfl, hq.1.symm, hq.2.symm⟩
      | some ij =>
        obtain ⟨a, b⟩ := ij
        right
        refine ⟨by simp, zs, ?_, rfl, .inl rfl⟩
        simp only [getP, stR, if_true, setP] at hq
        split at hq
        · rename_i s' zs' hrw
          simp only [Option.some.injEq, Prod.mk.injEq] at hq
          obtain ⟨rfl, rfl⟩ := hq
          have h1 := get_of_getD_row hrw
          cases e : ys[a]? with
          | none => rw [List.getD_eq_getElem?_getD, e] at h1; simp at h1
          | some y =>
            rw [getD_of_get e] at h1
            obtain ⟨x, h2, h3⟩ := hrow a y b _ _ e h1
            simp only [getP, hr, getD_of_get h2, getD_of_get h3]
        · cases hq
    | some ab =>
      obtain ⟨a0, b0⟩ := ab
      simp only [getP, hr] at hp
      split at hp
      case h_2 => cases hp
      rename_i s' zs' hrw
      simp only [Option.some.injEq, Prod.mk.injEq] at hp
      obtain ⟨rfl, rfl⟩ := hp
      have h1 := get_of_getD_row hrw
      obtain ⟨x, hx⟩ : ∃ x, r.els[a0]? = some x := by
        cases e : r.els[a0]? with
        | none => rw [List.getD_eq_getElem?_getD, e] at h1; simp at h1
        | some x => exact ⟨x, rfl⟩
      rw [getD_of_get hx] at h1
      have hset : setP r (some (a0, b0)) ys = { r with els := r.els.set a0 (x.set b0 (.row s' ys)) } := by
        simp only [setP, getD_of_get hx, getD_of_get h1]
      have ha0 := (List.getElem?_eq_some_iff.1 hx).1
      have hb0 := (List.getElem?_eq_some_iff.1 h1).1
      cases u with
      | none =>
        right
        simp only [getP, stR, if_true, hset, Option.some.injEq, Prod.mk.injEq] at hq
        obtain ⟨rfl, rfl⟩ := hq
        exact ⟨by simp, r.els, by simp [getP, hr], by simp, .inr ⟨a0, b0, x, rfl, rfl, hx, h1, rfl⟩⟩
      | some ij =>
        obtain ⟨a, b⟩ := ij
        simp only [getP, stR, if_true, hset] at hq
        split at hq
        case h_2 => cases hq
        rename_i s2 zs2 hrw2
        simp only [Option.some.injEq, Prod.mk.injEq] at hq
        obtain ⟨rfl, rfl⟩ := hq
        have h2 := get_of_getD_row hrw2
        by_cases haa : a = a0
        · subst haa
          rw [getD_of_get (x := x.set b0 (.row s' ys)) (by simp [ha0])] at h2
          by_cases hbb : b = b0
          · subst hbb
            left
            rw [List.getElem?_set, if_pos rfl, if_pos hb0] at h2
            simp only [Option.some.injEq, V.row.injEq] at h2
            exact ⟨rfl, h2.1.symm, h2.2.symm⟩
          · right
            rw [List.getElem?_set, if_neg (Ne.symm hbb)] at h2
            refine ⟨by simp [hbb], zs2, ?_, rfl, .inl rfl⟩
            simp only [getP, hr, getD_of_get hx, getD_of_get h2]
        · right
          refine ⟨by simp [haa], zs2, ?_, rfl, .inl rfl⟩
          have h3 : (r.els.set a0 (x.set b0 (.row s' ys))).getD a [] = r.els.getD a [] := by
            simp only [List.getD_eq_getElem?_getD, List.getElem?_set, if_neg (Ne.symm haa)]
          rw [h3] at h2
          simp only [getP, hr, getD_of_get h2]
  · right
    refine ⟨by simp [hmn], zs, ?_, rfl, .inl rfl⟩
    rw [← hq]
    exact getP_congr (by simp [stR, hmn])

theorem sat_store {C : Cx} (hC : Sat C) {p : Pl} {r : Root} {sz : Nat} {xs ys : List (List V)} {w' : World} {g : Nat} {cs cs' : Array Value} {ty : TypeId} (hw : Same C.w w')
    (hr : C.R p.1 = some r) (hp : getP C.R p = some (sz, xs)) (hl : ys.length = xs.length) (hys : ∀ y, y ∈ ys → y.length = sz)
    (hrow : ∀ (a : Nat) y (b : Nat) s zs, ys[a]? = some y → y[b]? = some (.row s zs) → ∃ x, xs[a]? = some x ∧ x[b]? = some (.row s zs))
    (hg : C.io p = some g) (hh : C.w.heap[g]? = some (.cells cs ty (0, 0))) (hh' : w'.heap[g]? = some (.cells cs' ty (0, 0))) (hs : cs'.size = cs.size)
    (hother : ∀ k, k ≠ g → w'.heap[k]? = C.w.heap[k]?)
    (hcell : ∀ (i : Nat) y (j : Nat) c, ys[i]? = some y → y[j]? = some c → ∃ v, cs'[i * sz + j]? = some v ∧ v.oneCell' = true ∧ ((∃ x, xs[i]? = some x ∧ x[j]? = some c ∧ cs[i * sz + j]? = some v) ∨ VR C v c)) :
    Sat { C with w := w', R := stR C.R p r ys } ∧ Ext C { C with w := w', R := stR C.R p r ys } ∧ Fr C { C with w := w', R := stR C.R p r ys } := by
  have hact : Act? C p := by unfold Act?; rw [hp]; rfl
  have toOld : ∀ q, Act? { C with w := w', R := stR C.R p r ys } q → Act? C q := by
    intro q hq
    obtain ⟨⟨s, zs⟩, e⟩ := Option.isSome_iff_exists.1 hq
    rcases getP_store hr hp hl hrow e with ⟨rfl, _, _⟩ | ⟨_, zs0, h1, _⟩
    · exact hact
    · unfold Act?; rw [h1]; rfl
  have he : Ext C { C with w := w', R := stR C.R p r ys } := by
    refine ⟨fun k hk => hother k (fun e => hC.own p g hact hg (e ▸ hk)), fun _ h => h, fun _ h => h, fun q hA s zs hq => ?_⟩
    have hblk : ∀ g', C.io q = some g' → ∀ ds ty', C.w.heap[g']? = some (.cells ds ty' (0, 0)) → ∃ ds', w'.heap[g']? = some (.cells ds' ty' (0, 0)) ∧ ds'.size = ds.size := by
      intro g' hg' ds ty' hd
      by_cases e : g' = g
      · subst e
        rw [hh] at hd
        simp only [Option.some.injEq, Obj.cells.injEq] at hd
        obtain ⟨rfl, rfl, _⟩ := hd
        exact ⟨cs', hh', hs⟩
      · exact ⟨ds, by rw [hother g' e]; exact hd, rfl⟩
    rcases getP_store hr hp hl hrow hq with ⟨rfl, rfl, rfl⟩ | ⟨_, zs0, h1, h2, _⟩
    · exact ⟨xs, hp, by omega, rfl, hblk⟩
    · exact ⟨zs0, h1, by omega, rfl, hblk⟩
  refine ⟨⟨?_, fun a b k ha hb => hC.inj a b k (toOld a ha) (toOld b hb), fun a k ha => hC.own a k (toOld a ha), fun k hk => Nat.lt_of_lt_of_le (hC.lt k hk) hw.size, ?_⟩, he, ⟨hw.os, hw.tape, hw.output, hw.size, ?_, ?_, fun _ h => .inl h⟩⟩
  · intro q s zs hq
    have rty : ∀ ty', (q.2 = none → ∀ r', C.R q.1 = some r' → r'.ty = ty') → (q.2 = none → ∀ r', stR C.R p r ys q.1 = some r' → r'.ty = ty') := by
      intro ty' h hn r' hr'
      unfold stR at hr'
      split at hr'
      · rename_i e
        have : r'.ty = r.ty := by
          have := Option.some.inj hr'
          subst this
          unfold setP
          split
          · rfl
          · split <;> rfl
        rw [this]
        exact h hn r (e ▸ hr)
      · exact h hn r' hr'
    rcases getP_store hr hp hl hrow hq with ⟨rfl, rfl, rfl⟩ | ⟨hne, zs0, h1, h2, h3⟩
    · obtain ⟨k1, k2, k3⟩ := hC.pl q s xs hp
      refine ⟨hys, fun h => by have := k2 h; rw [this] at hl; exact List.eq_nil_of_length_eq_zero hl, fun g' hg' => ?_⟩
      obtain rfl : g = g' := Option.some.inj (hg.symm.trans hg')
      obtain ⟨ds, ty', m1, m2, m3, m4⟩ := k3 g hg
      rw [hh] at m1
      simp only [Option.some.injEq, Obj.cells.injEq] at m1
      obtain ⟨rfl, rfl, _⟩ := m1
      refine ⟨cs', ty, hh', rty ty m2, by rw [hl, hs]; exact m3, fun i y j c hi hj => ?_⟩
      obtain ⟨v, n1, n2, n3⟩ := hcell i y j c hi hj
      refine ⟨v, n1, n2, ?_⟩
      rcases n3 with ⟨x, o1, o2, o3⟩ | n3
      · obtain ⟨v', p1, p2, p3⟩ := m4 i x j c o1 o2
        obtain rfl : v = v' := Option.some.inj (o3.symm.trans p1)
        exact p3.ext he
      · cases c <;> first | exact n3.ext he | exact n3.not_row.elim
    · obtain ⟨k1, k2, k3⟩ := hC.pl q s zs0 h1
      have hqa : Act? C q := by unfold Act?; rw [h1]; rfl
      refine ⟨?_, fun h => by have := k2 h; rw [this] at h2; exact List.eq_nil_of_length_eq_zero h2, fun g' hg' => ?_⟩
      · rcases h3 with rfl | ⟨a, b, x, _, _, hx, hxb, rfl⟩
        · exact k1
        · intro y hy
          rcases List.mem_or_eq_of_mem_set hy with h | h
          · exact k1 y h
          · subst h
            rw [List.length_set]
            exact k1 x (List.mem_of_getElem? hx)
      · have hgg : g' ≠ g := fun e => hne (hC.inj q p g hqa hact (e ▸ hg') hg)
        obtain ⟨ds, ty', m1, m2, m3, m4⟩ := k3 g' hg'
        refine ⟨ds, ty', by show w'.heap[g']? = _; rw [hother g' hgg]; exact m1, rty ty' m2, by rw [h2]; exact m3, fun i y j c hi hj => ?_⟩
        rcases h3 with rfl | ⟨a, b, x, hq0, hpb, hx, hxb, rfl⟩
        · obtain ⟨v, n1, n2, n3⟩ := m4 i y j c hi hj
          exact ⟨v, n1, n2, n3.ext he⟩
        · rw [List.getElem?_set] at hi
          by_cases hai : a = i
          · subst hai
            rw [if_pos rfl] at hi
            split at hi
            case isFalse => cases hi
            simp only [Option.some.injEq] at hi
            subst hi
            rw [List.getElem?_set] at hj
            by_cases hbj : b = j
            · subst hbj
              rw [if_pos rfl] at hj
              split at hj
              case isFalse => cases hj
              simp only [Option.some.injEq] at hj
              subst hj
              obtain ⟨v, n1, n2, n3, n4⟩ := m4 a x b _ hx hxb
              refine ⟨v, n1, n2, n3, ?_⟩
              rw [hl]
              exact n4.ext he
            · rw [if_neg hbj] at hj
              obtain ⟨v, n1, n2, n3⟩ := m4 a x j c hx hj
              exact ⟨v, n1, n2, n3.ext he⟩
          · rw [if_neg hai] at hi
            obtain ⟨v, n1, n2, n3⟩ := m4 i y j c hi hj
            exact ⟨v, n1, n2, n3.ext he⟩
  · intro n r' hr'
    simp only [stR] at hr'
    split at hr'
    · rename_i e; exact e ▸ hC.nm _ _ hr
    · exact hC.nm n r' hr'
  · intro k hk ho
    exact hother k (fun e => ho ⟨p, hact, e ▸ hg⟩)
  · rintro k ⟨q, hq, hi⟩
    exact .inl ⟨q, toOld q hq, hi⟩
end Go.Ev
namespace Go.Ev
open Go

def aggD : TypeDesc → Bool
  | .struct _ | .array _ _ => true
  | _ => false

/-- What the table says of a type is so. -/
structure TIok (P : Program) (t : TypeId) (i : TI) : Prop where
  info : (P.info? t).map (fun x => (x.size, x.bytes)) = some (i.sz, i.bytes)
  zero : i.zero ≠ [] → (P.info? t).map (fun x => (x.zero.map (·.cells))) = some (some i.zero.toArray)
  agg : (P.underlying t).map aggD = some i.agg
  elem : i.elem ≠ 0 → P.underlying t = some (.slice i.elem)
  kb : i.k = 1 → P.underlying t = some .bool
  ks : i.k = 2 → P.underlying t = some .string
  ki : ∀ d, i.ik = some d → P.underlying t = some (.int d)
  fs : i.fs ≠ [] → ∃ fields, P.underlying t = some (.struct fields) ∧
    fields.toList.map (fun f => (f.offset, (P.info? f.type).map (·.size), (P.underlying f.type).map aggD)) = i.fs.map fun x => (x.1, some x.2.1, some x.2.2)

def TabOK (P : Program) (tab : Nat → TI) : Prop := ∀ t, (tab t).sz ≠ 0 → TIok P t (tab t)

def tabOf : List (Nat × TI) → Nat → TI
  | [], _ => ⟨false, 0, 0, [], [], 0, 0, false, none⟩
  | (k, i) :: l, t => if k = t then i else tabOf l t

def AllOK (P : Program) : List (Nat × TI) → Prop
  | [] => True
  | (t, i) :: l => TIok P t i ∧ AllOK P l

theorem tabOf_ok {P : Program} : ∀ {l : List (Nat × TI)}, AllOK P l → TabOK P (tabOf l)
  | [], _, t, h => absurd rfl h
  | (k, i) :: l, h, t, hs => by
    unfold tabOf at hs ⊢
    by_cases e : k = t
    · rw [if_pos e]; subst e; exact h.1
    · rw [if_neg e] at hs ⊢; exact tabOf_ok h.2 t hs

def isK (k : Nat) : TypeDesc → Bool
  | .bool => k == 1
  | .string => k == 2
  | _ => k == 0

theorem tiok_of {P : Program} {t : TypeId} {i : TI} (h1 : (P.info? t).map (fun x => (x.size, x.bytes)) = some (i.sz, i.bytes)) (h2 : (P.info? t).map (fun x => (x.zero.map (·.cells))) = some (some i.zero.toArray)) (h3 : (P.underlying t).map aggD = some i.agg)
    (h4 : (P.underlying t).map (fun d => match d with | .slice e => e | _ => 0) = some i.elem) (h5 : (P.underlying t).map (isK i.k) = some true) (h6 : (P.underlying t).map (fun d => match d with | .int k => some k | _ => none) = some i.ik)
    (h7 : (P.underlying t).map (fun d => match d with | .struct fs => true | _ => false) = some (!i.fs.isEmpty)) (h8 : (P.underlying t).map (fun d => match d with | .struct fs => fs.toList.map (fun f => (f.offset, (P.info? f.type).map (·.size), (P.underlying f.type).map aggD)) | _ => []) = some (i.fs.map fun x => (x.1, some x.2.1, some x.2.2))) : TIok P t i := by
  cases hu : P.underlying t with
  | none => simp [hu] at h3
  | some d =>
    simp only [hu, Option.map_some, Option.some.injEq] at h3 h4 h5 h6 h7 h8
    refine ⟨h1, fun _ => h2, by rw [hu, Option.map_some, h3], fun h => ?_, fun h => ?_, fun h => ?_, fun k h => ?_, fun h => ?_⟩
    · cases d <;> simp_all
    · rw [h] at h5; cases d <;> first | exact hu | (simp [isK] at h5)
    · rw [h] at h5; cases d <;> first | exact hu | (simp [isK] at h5)
    · rw [h] at h6; cases d <;> first | (simp at h6; rw [h6] at hu; exact hu) | (simp at h6)
    · cases d <;> simp_all

structure Out where
  c : Prop
  v : V
  wr : List (Nat × Option Root)

def applyF : Rs → List (Nat × Option Root) → Rs
  | R, [] => R
  | R, (n, x) :: ws => applyF (fun m => if m = n then x else R m) ws

/-- An operation comes to what is told. -/
def OpOK (P : Program) (C : Cx) (s : Sem Next) (b : Nat) (out : Out) : Prop :=
  ∃ nx v' C', s.run P C.w = .ok nx C'.w ∧ (nx = .value v' ∨ (nx = .skip ∧ v' = undef)) ∧ Sat C' ∧ Ext C C' ∧ Fr C C' ∧ C'.R = applyF C.R out.wr ∧ VR C' v' out.v ∧ ∀ n, C'.A n → C.A n ∨ n = b

theorem Ext.refl {C : Cx} : Ext C C := ⟨fun _ _ => rfl, fun _ h => h, fun _ h => h, fun _ _ _ xs h => ⟨xs, h, Nat.le_refl _, rfl, fun _ _ cs _ h => ⟨cs, h, rfl⟩⟩⟩

theorem Ext.trans {a b c : Cx} (h : Ext a b) (k : Ext b c) : Ext a c := by
  refine ⟨fun x hx => (k.fr x (h.F x hx)).trans (h.fr x hx), fun x hx => k.F x (h.F x hx), fun x hx => k.A x (h.A x hx), fun p hA sz xs hp => ?_⟩
  obtain ⟨ys, h1, h2, h3, h4⟩ := k.pl p (h.A _ hA) sz xs hp
  obtain ⟨zs, k1, k2, k3, k4⟩ := h.pl p hA sz ys h1
  refine ⟨zs, k1, Nat.le_trans k2 h2, h3.trans k3, fun g hg cs ty hc => ?_⟩
  obtain ⟨cs', m1, m2⟩ := k4 g hg cs ty hc
  obtain ⟨cs'', n1, n2⟩ := h4 g (k3.trans hg) cs' ty m1
  exact ⟨cs'', n1, n2.trans m2⟩

theorem OpOK.pure {P : Program} {C : Cx} (hC : Sat C) {s : Sem Next} {b : Nat} {c : Prop} {v : V} {v' : Value} (h : s.run P C.w = .ok (.value v') C.w) (hv : VR C v' v) : OpOK P C s b ⟨c, v, []⟩ :=
  ⟨_, v', C, h, .inl rfl, hC, .refl, .refl C, rfl, hv, fun _ h => .inl h⟩

section inv
variable {C : Cx} {v : Value}
theorem VR.val_inv {u : Value} (h : VR C v (.val u)) : v = u := by
  cases h with | fro h => cases h with | val => rfl
theorem VR.agg_inv {cs : List V} (h : VR C v (.agg cs)) : ∃ vs : Array Value, v = .agg vs ∧ vs.size = cs.length ∧ ∀ (i : Nat) v c, vs[i]? = some v → cs[i]? = some c → VR C v c := by
  cases h with
  | fro h => cases h with | agg hl h => exact ⟨_, rfl, hl, fun i v c h1 h2 => .fro (h i v c h1 h2)⟩
  | agg hl h => exact ⟨_, rfl, hl, h⟩
theorem VR.tup_inv {cs : List V} (h : VR C v (.tup cs)) : ∃ vs : Array Value, v = .tuple vs ∧ vs.size = cs.length ∧ ∀ (i : Nat) v c, vs[i]? = some v → cs[i]? = some c → VR C v c := by
  cases h with
  | fro h => cases h with | tup hl h => exact ⟨_, rfl, hl, fun i v c h1 h2 => .fro (h i v c h1 h2)⟩
  | tup hl h => exact ⟨_, rfl, hl, h⟩
theorem VR.clo_inv {f : FuncId} {cs : List V} (h : VR C v (.clo f cs)) : ∃ vs : Array Value, v = .func (.func f) #[] vs ∧ vs.size = cs.length ∧ ∀ (i : Nat) v c, vs[i]? = some v → cs[i]? = some c → VR C v c := by
  cases h with
  | fro h => cases h with | clo hl h => exact ⟨_, rfl, hl, fun i v c h1 h2 => .fro (h i v c h1 h2)⟩
  | clo hl h => exact ⟨_, rfl, hl, h⟩
theorem VR.list_inv {sz : Nat} {xs : List (List V)} (h : VR C v (.list sz xs)) : Rd C.w C.F v (.list sz xs) := by
  cases h with | fro h => exact h
theorem VR.ept_inv {x : List V} {j : Nat} (h : VR C v (.ept x j)) : Rd C.w C.F v (.ept x j) := by
  cases h with | fro h => exact h
theorem VR.ref_inv {p : Pl} {off len : Nat} (h : VR C v (.ref p off len)) : ∃ a cap, v = .slice a len cap ∧ C.A p.1 ∧ ∀ sz xs, getP C.R p = some (sz, xs) → SlAt C p sz xs a off len cap := by
  cases h with
  | fro h => cases h
  | ref hA h => exact ⟨_, _, rfl, hA, h⟩
theorem VR.ptr_inv {p : Pl} {i j : Nat} (h : VR C v (.ptr p i j)) : ∃ ad, v = .pointer (some ad) ∧ C.A p.1 ∧ ∀ sz xs, getP C.R p = some (sz, xs) → ∃ g, C.io p = some g ∧ ad = ⟨g, i * sz + j, none⟩ := by
  cases h with
  | fro h => cases h
  | ptr hA h => exact ⟨_, rfl, hA, h⟩
theorem VR.one {c : V} (h : VR C v c) (ho : oneV c = true) : v.oneCell' = true := by
  cases h with
  | fro h => cases h <;> first | rfl | exact ho | (simp [oneV] at ho)
  | agg => simp [oneV] at ho
  | tup => simp [oneV] at ho
  | clo => rfl
  | ref => rfl
  | ptr => rfl
theorem VR.cells {x : V} (h : VR C v x) (ho : x.cells.all oneV = true) : v.cells.size = x.cells.length ∧ ∀ (i : Nat) u c, v.cells[i]? = some u → x.cells[i]? = some c → VR C u c ∧ u.oneCell' = true := by
  have key : ∀ y : V, (∀ cs, y ≠ .agg cs) → VR C v y → oneV y = true → v.cells.size = [y].length ∧ ∀ (i : Nat) u c, v.cells[i]? = some u → [y][i]? = some c → VR C u c ∧ u.oneCell' = true := by
    intro y hy hv h1
    have h2 := hv.one h1
    have hc : v.cells = #[v] := by cases v <;> first | rfl | simp [Value.oneCell'] at h2
    rw [hc]
    refine ⟨rfl, fun i u c hu hc' => ?_⟩
    cases i with
    | zero =>
      simp only [List.getElem?_cons_zero, Option.some.injEq] at hc'
      subst hc'
      have : v = u := by simpa using hu
      subst this
      exact ⟨hv, h2⟩
    | succ i => simp at hc'
  cases x with
  | agg cs =>
    obtain ⟨vs, rfl, hl, hh⟩ := h.agg_inv
    refine ⟨hl, fun i u c hu hc => ⟨hh i u c hu hc, (hh i u c hu hc).one ?_⟩⟩
    exact (List.all_eq_true.1 ho) c (List.mem_of_getElem? hc)
  | _ => exact key _ (by simp) h (by simpa [V.cells] using ho)
end inv

section runs
variable {P : Program}
theorem info_of {t : TypeId} {i : TI} (h : TIok P t i) : ∃ x, P.info? t = some x ∧ x.size = i.sz ∧ x.bytes = i.bytes := by
  have := h.info
  cases e : P.info? t with
  | none => simp [e] at this
  | some x => simp [e] at this; exact ⟨x, rfl, this.1, this.2⟩
theorem und_of {t : TypeId} {i : TI} (h : TIok P t i) : ∃ d, P.underlying t = some d ∧ aggD d = i.agg := by
  have := h.agg
  cases e : P.underlying t with
  | none => simp [e] at this
  | some x => simp [e] at this; exact ⟨x, rfl, this⟩
theorem run_sizeOf {t : TypeId} {i : TI} (h : TIok P t i) (w : World) : (sizeOf t).run P w = .ok i.sz w := by
  obtain ⟨x, h1, h2, _⟩ := info_of h
  simp [sizeOf, typeInfo, h1, h2]
theorem run_isAgg {t : TypeId} {i : TI} (h : TIok P t i) (w : World) : (isAgg t).run P w = .ok i.agg w := by
  obtain ⟨d, h1, h2⟩ := und_of h
  simp only [isAgg, Sem.run_bind, run_underlying h1, Result.andThen_ok]
  rw [← h2]
  cases d <;> rfl
theorem run_zero {t : TypeId} {i : TI} (h : TIok P t i) (hz : i.zero ≠ []) (w : World) : ∃ z, (zeroValue t).run P w = .ok z w ∧ z.cells = i.zero.toArray := by
  have h1 := h.zero hz
  cases e : P.info? t with
  | none => simp [e] at h1
  | some x =>
    simp only [e, Option.map_some, Option.some.injEq] at h1
    cases ez : x.zero with
    | none => simp [ez] at h1
    | some z =>
      simp only [ez, Option.map_some, Option.some.injEq] at h1
      exact ⟨z, by simp [zeroValue, typeInfo, e, ez], h1⟩

/-- The value that a load of cells gives. -/
def mkVal (agg : Bool) (vs : List Value) : Value := if agg then .agg vs.toArray else vs.headD undef

theorem run_loadVar {t : TypeId} {i : TI} (h : TIok P t i) (w : World) (ad : Addr) (vs : List Value) (hl : vs.length = i.sz) (ha : i.agg = false → i.sz = 1)
    (hc : ∀ (k : Nat) v, vs[k]? = some v → w.cell? (ad.add k) = some v) : (Instr.loadAt t (.pointer (some ad))).run P w = .ok (mkVal i.agg vs) w := by
  simp only [Instr.loadAt, Instr.sureAddr, loadVar, Sem.run_bind, Sem.run_pure, Result.andThen_ok, run_isAgg h]
  cases hg : i.agg with
  | true =>
    have hr := run_loadCells_list (P := P) w ad vs hc
    rw [hl] at hr
    simp [run_sizeOf h, hr, mkVal]
  | false =>
    have h1 := ha hg
    obtain ⟨v, rfl⟩ : ∃ v, vs = [v] := by
      cases vs with
      | nil => simp at hl; omega
      | cons v r => cases r with
        | nil => exact ⟨v, rfl⟩
        | cons => simp at hl; omega
    have h2 := hc 0 v rfl
    have h3 : ad.add 0 = ad := rfl
    rw [h3] at h2
    simp [run_load, h2, mkVal]
end runs
end Go.Ev
namespace Go.Ev
open Go
variable {P : Program} {C : Cx} {b : Nat}

def runV (s : Sem Value) : Sem Next := do pure (.value (← s))
def runU (s : Sem Unit) : Sem Next := do s; pure .skip
theorem run_runV {s : Sem Value} {w w' : World} {v : Value} (h : s.run P w = .ok v w') : (runV s).run P w = .ok (.value v) w' := by simp [runV, h]
theorem run_runU {s : Sem Unit} {w w' : World} (h : s.run P w = .ok () w') : (runU s).run P w = .ok .skip w' := by simp [runU, h]

theorem mk_rep {g : Bool} {vs : List Value} {cs : List V} {x : V} (hl : vs.length = cs.length) (h : ∀ (m : Nat) v c, vs[m]? = some v → cs[m]? = some c → VR C v c) (ho : ofCells g cs = some x) : VR C (mkVal g vs) x := by
  cases g with
  | true =>
    simp only [ofCells, Option.some.injEq] at ho
    subst ho
    exact .agg (by simpa using hl) (fun i v c h1 h2 => h i v c (by simpa using h1) h2)
  | false =>
    cases cs with
    | nil => simp [ofCells] at ho
    | cons c r => cases r with
      | cons => simp [ofCells] at ho
      | nil =>
        simp only [ofCells, Option.some.injEq] at ho
        subst ho
        cases vs with
        | nil => simp at hl
        | cons v r => exact h 0 v c rfl rfl

theorem ofCells_one {cs : List V} {x : V} (ho : ofCells false cs = some x) : cs.length = 1 := by
  cases cs with
  | nil => simp [ofCells] at ho
  | cons c r => cases r with
    | cons => simp [ofCells] at ho
    | nil => rfl

theorem cellsAt_get (p : Pl) (i : Nat) : ∀ (cs : List V) (j m : Nat), (cellsAt p i j cs)[m]? = cs[m]?.map (cellAt p i (j + m))
  | [], j, m => by simp [cellsAt]
  | c :: cs, j, m => by
    cases m with
    | zero => simp [cellsAt]
    | succ m => simp only [cellsAt, List.getElem?_cons_succ, cellsAt_get p i cs (j + 1) m]; rw [show j + 1 + m = j + (m + 1) by omega]

theorem cellsAt_length (p : Pl) (i : Nat) : ∀ (cs : List V) (j : Nat), (cellsAt p i j cs).length = cs.length
  | [], j => rfl
  | c :: cs, j => by simp [cellsAt, cellsAt_length p i cs]

theorem range_get {n m m' : Nat} (h : (List.range n)[m]? = some m') : m' = m ∧ m < n := by
  have h1 := List.getElem?_eq_some_iff.1 h
  obtain ⟨h2, h3⟩ := h1
  simp at h2 h3
  exact ⟨h3.symm, h2⟩

def loadV (i : TI) (R : Rs) (x : V) : Option Out :=
  match x with
  | .ptr p k j =>
    match getP R p with
    | some (sz, xs) => (ofCells i.agg (cellsAt p k j (((xs.getD k []).drop j).take i.sz))).map fun v => ⟨k < xs.length ∧ j + i.sz ≤ sz, v, []⟩
    | none => none
  | .ept x j => (ofCells i.agg ((x.drop j).take i.sz)).map fun v => ⟨j + i.sz ≤ x.length, v, []⟩
  | _ => none

theorem fit {k n sz j m : Nat} (h : k < n) (h2 : j + m ≤ sz) : k * sz + j + m ≤ n * sz := by
  have : (k + 1) * sz ≤ n * sz := Nat.mul_le_mul_right _ h
  rw [Nat.add_mul, Nat.one_mul] at this
  omega

theorem load_run {t : TypeId} {i : TI} (hT : TIok P t i) (hC : Sat C) {v : Value} {x : V} (hx : VR C v x) {out : Out} (h : loadV i C.R x = some out) (hc : out.c) : ∃ v', (Instr.loadAt t v).run P C.w = .ok v' C.w ∧ VR C v' out.v ∧ out.wr = [] := by
  cases x with
  | ptr p k j =>
    obtain ⟨ad, rfl, hA, hp⟩ := hx.ptr_inv
    simp only [loadV] at h
    cases hg : getP C.R p with
    | none => rw [hg] at h; cases h
    | some q =>
      obtain ⟨sz, xs⟩ := q
      rw [hg] at h
      simp only [Option.map_eq_some_iff] at h
      obtain ⟨u, ho, rfl⟩ := h
      obtain ⟨hk, hj⟩ := hc
      obtain ⟨g, hio, rfl⟩ := hp sz xs hg
      obtain ⟨k1, _, k3⟩ := hC.pl p sz xs hg
      obtain ⟨cs, ty, m1, m2, m3, m4⟩ := k3 g hio
      have hy : xs[k]? = some xs[k] := List.getElem?_eq_getElem hk
      have hyl := k1 _ (List.mem_of_getElem? hy)
      rw [getD_of_get hy] at ho
      have hf := fit hk hj
      have hvl : ((cs.toList.drop (k * sz + j)).take i.sz).length = i.sz := by
        simp only [List.length_take, List.length_drop, Array.length_toList]; omega
      have hr := run_loadVar hT C.w ⟨g, k * sz + j, none⟩ ((cs.toList.drop (k * sz + j)).take i.sz) hvl (fun hn => by
        rw [hn] at ho
        have := ofCells_one ho
        rw [cellsAt_length, List.length_take, List.length_drop] at this
        omega) (fun m v hv => by
        rw [add_mk]
        rw [List.getElem?_take] at hv
        split at hv
        · rw [List.getElem?_drop] at hv
          simp only [World.cell?, m1]
          simpa using hv
        · cases hv)
      refine ⟨_, hr, mk_rep ?_ ?_ ho, rfl⟩
      · rw [hvl, cellsAt_length, List.length_take, List.length_drop]; omega
      · intro m v c hv hcm
        rw [cellsAt_get, List.getElem?_take] at hcm
        rw [List.getElem?_take] at hv
        split at hv
        · rename_i hm
          rw [if_pos hm, List.getElem?_drop] at hcm
          rw [List.getElem?_drop] at hv
          cases e : xs[k][j + m]? with
          | none => rw [e] at hcm; cases hcm
          | some d =>
            rw [e] at hcm
            simp only [Option.map_some, Option.some.injEq] at hcm
            subst hcm
            obtain ⟨v', n1, n2, n3⟩ := m4 k _ (j + m) d hy e
            have : v = v' := by
              rw [show k * sz + (j + m) = k * sz + j + m by omega] at n1
              have h2 : cs[k * sz + j + m]? = some v := by simpa using hv
              exact Option.some.inj (h2.symm.trans n1)
            subst this
            cases d <;> first | exact n3 | (obtain ⟨n4, n5⟩ := n3; simp only [cellAt, n4]; exact n5)
        · cases hv
  | ept y j =>
    simp only [loadV, Option.map_eq_some_iff] at h
    obtain ⟨u, ho, rfl⟩ := h
    have hj : j + i.sz ≤ y.length := hc
    have hx := hx.ept_inv
    cases hx with
    | ept f hF hcl hrd =>
      rename_i ad
      have hr := run_loadVar hT C.w ad ((List.range i.sz).map f) (by simp) (fun hn => by
        rw [hn] at ho
        have := ofCells_one ho
        rw [List.length_take, List.length_drop] at this
        omega) (fun m v hv => by
        simp only [List.getElem?_map, Option.map_eq_some_iff] at hv
        obtain ⟨m', hm', rfl⟩ := hv
        obtain ⟨rfl, hm⟩ := range_get hm'
        have e : y[j + m']? = some y[j + m'] := List.getElem?_eq_getElem (by omega)
        exact (hcl m' _ e).1)
      refine ⟨_, hr, mk_rep (by simp; omega) ?_ ho, rfl⟩
      intro m v c hv hcm
      simp only [List.getElem?_map, Option.map_eq_some_iff] at hv
      obtain ⟨m', hm', rfl⟩ := hv
      obtain ⟨rfl, hm⟩ := range_get hm'
      rw [List.getElem?_take, if_pos hm, List.getElem?_drop] at hcm
      exact .fro (hrd m' c hcm)
  | _ => simp [loadV] at h

theorem ok_load {t : TypeId} {i : TI} (hT : TIok P t i) (hC : Sat C) {v : Value} {x : V} (hx : VR C v x) {out : Out} (h : loadV i C.R x = some out) (hc : out.c) : OpOK P C (runV (Instr.loadAt t v)) b out := by
  obtain ⟨v', h1, h2, h3⟩ := load_run hT hC hx h hc
  exact ⟨_, v', C, run_runV h1, .inl rfl, hC, ⟨fun _ _ => rfl, fun _ h => h, fun _ h => h, fun _ _ _ xs h => ⟨xs, h, Nat.le_refl _, rfl, fun _ _ cs _ h => ⟨cs, h, rfl⟩⟩⟩, .refl C, by rw [h3]; rfl, h2, fun _ h => .inl h⟩
end Go.Ev
namespace Go.Ev
open Go
variable {P : Program} {C : Cx} {b : Nat}

theorem splice_get {α : Type} (l vs : List α) (o q : Nat) (h : o + vs.length ≤ l.length) : (l.take o ++ vs ++ l.drop (o + vs.length))[q]? = if o ≤ q ∧ q < o + vs.length then vs[q - o]? else l[q]? := by
  have h1 : (l.take o).length = o := by simp; omega
  by_cases a : q < o
  · rw [if_neg (by omega), List.append_assoc, List.getElem?_append_left (by omega), List.getElem?_take, if_pos a]
  · by_cases c : q < o + vs.length
    · rw [if_pos (by omega), List.append_assoc, List.getElem?_append_right (by omega), h1, List.getElem?_append_left (by omega)]
    · rw [if_neg (by omega), List.append_assoc, List.getElem?_append_right (by omega), h1, List.getElem?_append_right (by omega), List.getElem?_drop]
      congr 1; omega

theorem set_get {α : Type} {xs : List α} {k a : Nat} {y0 y : α} (h : (xs.set k y0)[a]? = some y) : (a = k ∧ y = y0) ∨ (a ≠ k ∧ xs[a]? = some y) := by
  rw [List.getElem?_set] at h
  by_cases e : k = a
  · rw [if_pos e] at h
    by_cases hl : k < xs.length
    · rw [if_pos hl] at h; exact .inl ⟨e.symm, (Option.some.inj h).symm⟩
    · rw [if_neg hl] at h; cases h
  · rw [if_neg e] at h; exact .inr ⟨Ne.symm e, h⟩

def storeV (i : TI) (R : Rs) (a x : V) : Option Out :=
  match a with
  | .ptr p k j =>
    match R p.1, getP R p with
    | some r, some (sz, xs) => some ⟨(x.cells.all oneV = true ∧ x.cells.length = i.sz) ∧ k < xs.length ∧ j + i.sz ≤ sz, .any, [(p.1, some (setP r p.2 (xs.set k (putCells (xs.getD k []) j x.cells))))]⟩
    | _, _ => none
  | _ => none

theorem ok_store {t : TypeId} {i : TI} (hT : TIok P t i) (hC : Sat C) {va vx : Value} {a x : V} (ha : VR C va a) (hx : VR C vx x) {out : Out} (h : storeV i C.R a x = some out) (hc : out.c) :
    OpOK P C (runU (Instr.storeAt t va vx)) b out := by
  cases a with
  | ptr p k j =>
    obtain ⟨ad, rfl, hA, hp⟩ := ha.ptr_inv
    simp only [storeV] at h
    cases hr : C.R p.1 with
    | none => simp [hr] at h
    | some r =>
      cases hg : getP C.R p with
      | none => simp [hr, hg] at h
      | some q =>
        obtain ⟨sz, xs⟩ := q
        simp only [hr, hg, Option.some.injEq] at h
        subst h
        obtain ⟨⟨hone, hlen⟩, hk, hj⟩ := hc
        obtain ⟨g, hio, rfl⟩ := hp sz xs hg
        obtain ⟨k1, _, k3⟩ := hC.pl p sz xs hg
        obtain ⟨cs, ty, m1, m2, m3, m4⟩ := k3 g hio
        have hy : xs[k]? = some xs[k] := List.getElem?_eq_getElem hk
        have hyl := k1 _ (List.mem_of_getElem? hy)
        have hf := fit hk hj
        obtain ⟨hcs, hcv⟩ := hx.cells hone
        have hvl : vx.cells.toList.length = i.sz := by rw [Array.length_toList, hcs, hlen]
        have hrun := run_storeCells_at (P := P) g (k * sz + j) ty vx.cells.toList 0 cs C.w m1 (by rw [hvl]; omega) (fun v hv => by
          obtain ⟨n, hn, rfl⟩ := List.getElem_of_mem hv
          have hn' : n < x.cells.length := by rw [Array.length_toList] at hn; omega
          exact (hcv n _ x.cells[n] (by rw [← Array.getElem?_toList]; exact List.getElem?_eq_getElem hn) (List.getElem?_eq_getElem hn')).2)
        simp only [Nat.add_zero] at hrun
        have hst : (Instr.storeAt t (.pointer (some ⟨g, k * sz + j, none⟩)) vx).run P C.w = .ok () (C.w.setRow g (cs.toList.take (k * sz + j) ++ vx.cells.toList ++ cs.toList.drop (k * sz + j + vx.cells.toList.length)).toArray) := by
          simp [Instr.storeAt, Instr.sureAddr, storeVar, run_sizeOf hT, hcs, hlen, hrun]
        generalize hw' : C.w.setRow g (cs.toList.take (k * sz + j) ++ vx.cells.toList ++ cs.toList.drop (k * sz + j + vx.cells.toList.length)).toArray = w' at hst
        have hsame : Same C.w w' := by subst hw'; exact ⟨rfl, rfl, rfl, by simp [World.setRow]⟩
        have hcell' : ∀ q, ((cs.toList.take (k * sz + j) ++ vx.cells.toList ++ cs.toList.drop (k * sz + j + vx.cells.toList.length)).toArray)[q]? = if k * sz + j ≤ q ∧ q < k * sz + j + i.sz then vx.cells[q - (k * sz + j)]? else cs[q]? := by
          intro q
          rw [List.getElem?_toArray, splice_get _ _ _ _ (by rw [hvl, Array.length_toList]; omega), hvl]
          simp
        have S := sat_store (ys := xs.set k (putCells xs[k] j x.cells)) hC hsame hr hg (by simp) (fun y hy' => by
            rcases List.mem_or_eq_of_mem_set hy' with h | h
            · exact k1 y h
            · subst h; rw [putCells_length]; exact hyl)
          (fun a y b' s zs h1 h2 => by
            rcases set_get h1 with ⟨rfl, rfl⟩ | ⟨_, h1⟩
            · rw [putCells_get] at h2
              split at h2
              · have hd : x.cells[b' - j]? = some (.row s zs) := h2
                have hlt := (List.getElem?_eq_some_iff.1 hd).1
                have hv : vx.cells[b' - j]? = some (vx.cells[b' - j]'(by omega)) := Array.getElem?_eq_getElem _
                exact ((hcv _ _ _ hv hd).1.not_row).elim
              · exact ⟨_, hy, h2⟩
            · exact ⟨y, h1, h2⟩) hio m1 (by rw [← hw']; exact setRow_heap _ _ _ _ _ _ m1) (by
              simp only [List.size_toArray, List.length_append, List.length_take, List.length_drop, Array.length_toList, hcs, hlen]; omega)
          (fun q hq => by rw [← hw']; exact setRow_other _ _ _ _ hq)
          (fun a y m c h1 h2 => by
            rw [hcell']
            rcases set_get h1 with ⟨rfl, rfl⟩ | ⟨e, h1⟩
            · rw [putCells_get, hlen] at h2
              split at h2
              · rename_i e
                rw [if_pos (by omega)]
                have hlt := (List.getElem?_eq_some_iff.1 h2).1
                have hv : vx.cells[m - j]? = some (vx.cells[m - j]'(by omega)) := Array.getElem?_eq_getElem _
                have hq : a * sz + m - (a * sz + j) = m - j := by omega
                rw [hq]
                exact ⟨_, hv, (hcv _ _ _ hv h2).2, .inr (hcv _ _ _ hv h2).1⟩
              · rename_i e
                have hm := (List.getElem?_eq_some_iff.1 h2).1
                rw [if_neg (by omega)]
                obtain ⟨v, n1, n2, n3⟩ := m4 a _ m c hy h2
                exact ⟨v, n1, n2, .inl ⟨_, hy, h2, n1⟩⟩
            · have hm := (List.getElem?_eq_some_iff.1 h2).1
              rw [k1 y (List.mem_of_getElem? h1)] at hm
              have hne : ¬ (k * sz + j ≤ a * sz + m ∧ a * sz + m < k * sz + j + i.sz) := by
                rcases Nat.lt_or_gt_of_ne e with h | h
                · have := fit (k := a) (n := k) (sz := sz) (j := m) (m := 1) h (by omega); omega
                · have := fit (k := k) (n := a) (sz := sz) (j := j) (m := i.sz) h hj; omega
              rw [if_neg hne]
              obtain ⟨v, n1, n2, n3⟩ := m4 a y m c h1 h2
              exact ⟨v, n1, n2, .inl ⟨y, h1, h2, n1⟩⟩)
        refine ⟨.skip, undef, _, run_runU hst, .inr ⟨rfl, rfl⟩, S.1, S.2.1, S.2.2, ?_, .fro (.any _), fun _ h => .inl h⟩
        simp only [applyF]
        rw [getD_of_get hy]
        rfl
  | _ => simp [storeV] at h

def fieldAddrV (i : TI) (f : Nat) (x : V) : Option Out :=
  match x, i.fs[f]? with
  | .ptr p k j, some (off, n, _) => some ⟨n ≠ 0, .ptr p k (j + off), []⟩
  | .ept x j, some (off, n, _) => some ⟨n ≠ 0, .ept x (j + off), []⟩
  | _, _ => none

theorem run_field {t : TypeId} {i : TI} (hT : TIok P t i) {f off n : Nat} {g : Bool} (h : i.fs[f]? = some (off, n, g)) :
    ∃ fields fl, P.underlying t = some (.struct fields) ∧ fields[f]? = some fl ∧ fl.offset = off ∧ (P.info? fl.type).map (·.size) = some n ∧ (P.underlying fl.type).map aggD = some g := by
  obtain ⟨fields, h1, h2⟩ := hT.fs (fun e => by rw [e] at h; simp at h)
  have h3 := congrArg (·[f]?) h2
  simp only [List.getElem?_map, h, Option.map_some] at h3
  cases e : fields.toList[f]? with
  | none => rw [e] at h3; cases h3
  | some fl =>
    rw [e] at h3
    simp only [Option.map_some, Option.some.injEq, Prod.mk.injEq] at h3
    exact ⟨fields, fl, h1, by simpa using e, h3.1, h3.2.1, h3.2.2⟩

theorem ok_fieldAddr {t : TypeId} {i : TI} (hT : TIok P t i) (hC : Sat C) {v : Value} {x : V} {f : Nat} (hx : VR C v x) {out : Out} (h : fieldAddrV i f x = some out) (hc : out.c) :
    OpOK P C (runV (Instr.fieldAt t v f)) b out := by
  have run : ∀ (ad : Addr) off n g, i.fs[f]? = some (off, n, g) → n ≠ 0 → (Instr.fieldAt t (.pointer (some ad)) f).run P C.w = .ok (.pointer (some (ad.add off))) C.w := by
    intro ad off n g hf hn
    obtain ⟨fields, fl, h1, h2, h3, h4, h5⟩ := run_field hT hf
    cases e : P.info? fl.type with
    | none => simp [e] at h4
    | some inf =>
      simp only [e, Option.map_some, Option.some.injEq] at h4
      simp [Instr.fieldAt, run_underlying h1, h2, Instr.sureAddr, fieldPlace, sizeOf, typeInfo, e, h4, hn, h3]
  cases x with
  | ptr p k j =>
    obtain ⟨ad, rfl, hA, hp⟩ := hx.ptr_inv
    cases hf : i.fs[f]? with
    | none => simp [fieldAddrV, hf] at h
    | some q =>
      obtain ⟨off, n, g⟩ := q
      simp only [fieldAddrV, hf, Option.some.injEq] at h
      subst h
      refine OpOK.pure hC (run_runV (run ad off n g hf hc)) (.ptr hA (fun sz xs hg => ?_))
      obtain ⟨g', h1, rfl⟩ := hp sz xs hg
      exact ⟨g', h1, by rw [add_mk, Nat.add_assoc]⟩
  | ept y j =>
    have hx := hx.ept_inv
    cases hx with
    | ept fv hF hcl hrd =>
      cases hf : i.fs[f]? with
      | none => simp [fieldAddrV, hf] at h
      | some q =>
        obtain ⟨off, n, g⟩ := q
        simp only [fieldAddrV, hf, Option.some.injEq] at h
        subst h
        refine OpOK.pure hC (run_runV (run _ off n g hf hc)) (.fro (.ept (fun k => fv (off + k)) (by rw [add_block]; exact hF) (fun k c hk => ?_) (fun k c hk => ?_)))
        · rw [Nat.add_assoc] at hk
          rw [add_add]
          exact hcl _ c hk
        · rw [Nat.add_assoc] at hk
          exact hrd _ c hk
  | _ => simp [fieldAddrV] at h

def fieldV (i : TI) (f : Nat) (x : V) : Option Out :=
  match x, i.fs[f]? with
  | .agg cs, some (off, n, g) => (ofCells g ((cs.drop off).take n)).map fun v => ⟨off + n ≤ cs.length, v, []⟩
  | _, _ => none

theorem run_part {t : TypeId} {n off : Nat} {g : Bool} (hi : (P.info? t).map (·.size) = some n) (hu : (P.underlying t).map aggD = some g) (vs : Array Value) (h : off + n ≤ vs.size) (h1 : g = false → n = 1) (w : World) :
    (part t vs off).run P w = .ok (mkVal g ((vs.toList.drop off).take n)) w := by
  cases e : P.underlying t with
  | none => simp [e] at hu
  | some d =>
    simp only [e, Option.map_some, Option.some.injEq] at hu
    cases e2 : P.info? t with
    | none => simp [e2] at hi
    | some inf =>
      simp only [e2, Option.map_some, Option.some.injEq] at hi
      have hagg : (isAgg t).run P w = .ok g w := by
        simp only [isAgg, Sem.run_bind, run_underlying e, Result.andThen_ok]
        rw [← hu]
        cases d <;> rfl
      simp only [part, Sem.run_bind, hagg, Result.andThen_ok]
      cases g with
      | true =>
        simp only [if_true, Sem.run_bind, sizeOf, typeInfo, Sem.run_map, run_program, Result.andThen_ok, e2, Sem.run_pure, mkVal, hi]
        congr 2
        apply Array.ext'
        simp [Array.toList_extract, List.extract_eq_take_drop]
      | false =>
        have hn := h1 rfl
        subst hn
        have hlt : off < vs.size := by omega
        simp only [Bool.false_eq_true, if_false, mkVal]
        have e3 : vs[off]? = some vs[off] := Array.getElem?_eq_getElem hlt
        have e4 : (vs.toList.drop off).take 1 = [vs[off]] := by
          rw [List.drop_eq_getElem_cons (by simpa using hlt)]
          simp
        rw [e3, e4]
        rfl

theorem ok_field {t : TypeId} {i : TI} (hT : TIok P t i) (hC : Sat C) {v : Value} {x : V} {f : Nat} (hx : VR C v x) {out : Out} (h : fieldV i f x = some out) (hc : out.c) :
    OpOK P C (runV (Instr.field t v f)) b out := by
  cases x with
  | agg cs =>
    obtain ⟨vs, rfl, hl, hh⟩ := hx.agg_inv
    cases hf : i.fs[f]? with
    | none => simp [fieldV, hf] at h
    | some q =>
      obtain ⟨off, n, g⟩ := q
      simp only [fieldV, hf, Option.map_eq_some_iff] at h
      obtain ⟨u, ho, rfl⟩ := h
      have hc : off + n ≤ cs.length := hc
      obtain ⟨fields, fl, h1, h2, h3, h4, h5⟩ := run_field hT hf
      have hp := run_part h4 h5 vs (off := off) (by omega) (fun e => by
        rw [e] at ho
        have := ofCells_one ho
        simp at this
        omega) C.w
      refine OpOK.pure hC (run_runV (v := mkVal g ((vs.toList.drop off).take n)) ?_) (mk_rep ?_ ?_ ho)
      · simp [Instr.field, run_underlying h1, h2, asAgg, h3, hp]
      · simp; omega
      · intro m v c hv hcm
        rw [List.getElem?_take] at hv hcm
        split at hv
        · rename_i hm
          rw [if_pos hm, List.getElem?_drop] at hcm
          rw [List.getElem?_drop] at hv
          exact hh (off + m) v c (by simpa using hv) hcm
        · cases hv
  | _ => simp [fieldV] at h
end Go.Ev
namespace Go.Ev
open Go
variable {P : Program} {C : Cx} {b : Nat}

def NoRow (zs : List (List V)) : Prop := ∀ z, z ∈ zs → ∀ d, d ∈ z → ∀ s ys, d ≠ .row s ys

def plOf (C : Cx) (g0 : Nat) (src : Nat → Nat → Pl) : Option (Nat × Nat) → Option Nat
  | none => some g0
  | some (i, j) => C.io (src i j)

theorem getP_row {R : Rs} {b i j s : Nat} {r : Root} {zs} (hr : R b = some r) (h : getP R (b, some (i, j)) = some (s, zs)) : ∃ x, r.els[i]? = some x ∧ x[j]? = some (.row s zs) := by
  simp only [getP, hr] at h
  split at h
  · rename_i s' zs' hrw
    simp only [Option.some.injEq, Prod.mk.injEq] at h
    obtain ⟨rfl, rfl⟩ := h
    have h1 := get_of_getD_row hrw
    cases e : r.els[i]? with
    | none => rw [List.getD_eq_getElem?_getD, e] at h1; simp at h1
    | some x => rw [getD_of_get e] at h1; exact ⟨x, rfl, h1⟩
  · cases h

theorem root_sat (hC : Sat C) (hb : ¬ C.A b) {w' : World} (hw : Same C.w w') {D : List Nat} {els : List (List V)} {sz ty g0 : Nat} {cs : Array Value} {src : Nat → Nat → Pl}
    (hblk : ∀ k, k < C.w.heap.size → ¬ OwnD C D k → w'.heap[k]? = C.w.heap[k]?)
    (hg : w'.heap[g0]? = some (.cells cs ty (0, 0))) (hsz : els.length * sz ≤ cs.size) (hes : ∀ x, x ∈ els → x.length = sz)
    (hg0 : C.w.heap.size ≤ g0 ∨ OwnD C D g0)
    (hcell : ∀ (i : Nat) x (j : Nat) c, els[i]? = some x → x[j]? = some c → ∃ v, cs[i * sz + j]? = some v ∧ v.oneCell' = true ∧ (VR C v c ∨ ∃ s zs, c = .row s zs ∧ (src i j).1 ∈ D ∧ getP C.R (src i j) = some (s, zs) ∧ NoRow zs ∧
      VR C v (.ref (src i j) 0 zs.length) ∧ ∀ g, C.io (src i j) = some g → g ≠ g0 ∧ w'.heap[g]? = C.w.heap[g]?))
    (hinj : ∀ (i : Nat) x (j : Nat) s zs (i' : Nat) x' (j' : Nat) s' zs', els[i]? = some x → x[j]? = some (.row s zs) → els[i']? = some x' → x'[j']? = some (.row s' zs') → src i j = src i' j' → i = i' ∧ j = j') :
    Sat (mkCx C w' D b ⟨ty, sz, els⟩ (plOf C g0 src)) ∧ Ext C (mkCx C w' D b ⟨ty, sz, els⟩ (plOf C g0 src)) ∧ Fr C (mkCx C w' D b ⟨ty, sz, els⟩ (plOf C g0 src)) := by
  have hRb : (mkCx C w' D b ⟨ty, sz, els⟩ (plOf C g0 src)).R b = some ⟨ty, sz, els⟩ := by simp [mkCx]
  have rowof : ∀ i x j s zs, els[i]? = some x → x[j]? = some (.row s zs) → ∃ v, cs[i * sz + j]? = some v ∧ (src i j).1 ∈ D ∧ getP C.R (src i j) = some (s, zs) ∧ NoRow zs ∧
      VR C v (.ref (src i j) 0 zs.length) ∧ ∀ g, C.io (src i j) = some g → g ≠ g0 ∧ w'.heap[g]? = C.w.heap[g]? := by
    intro i x j s zs h1 h2
    obtain ⟨v, n1, n2, n3⟩ := hcell i x j _ h1 h2
    rcases n3 with n3 | ⟨s', zs', e, n4⟩
    · exact n3.not_row.elim
    · simp only [V.row.injEq] at e
      obtain ⟨rfl, rfl⟩ := e
      exact ⟨v, n1, n4⟩
  have rowact : ∀ i j, Act? (mkCx C w' D b ⟨ty, sz, els⟩ (plOf C g0 src)) (b, some (i, j)) → ∃ x s zs, els[i]? = some x ∧ x[j]? = some (.row s zs) := by
    intro i j h
    obtain ⟨⟨s, zs⟩, e⟩ := Option.isSome_iff_exists.1 h
    obtain ⟨x, h1, h2⟩ := getP_row hRb e
    exact ⟨x, s, zs, h1, h2⟩
  refine mk_sat hC hb hw hblk (fun he q s zs hq => ?_) (fun q q' g hq hq' h1 h2 => ?_) (fun q g hq h1 => ?_)
  · cases q with
    | none =>
      simp only [getP, hRb, Option.some.injEq, Prod.mk.injEq] at hq
      obtain ⟨rfl, rfl⟩ := hq
      refine ⟨hes, fun h => by simp [mkCx, plOf] at h, fun g hgi => ?_⟩
      have : g0 = g := by simpa [mkCx, plOf] using hgi
      subst this
      refine ⟨cs, ty, hg, fun _ r hr => by rw [hRb] at hr; cases hr; rfl, hsz, fun i x j c h1 h2 => ?_⟩
      obtain ⟨v, n1, n2, n3⟩ := hcell i x j c h1 h2
      refine ⟨v, n1, n2, ?_⟩
      rcases n3 with n3 | ⟨s', zs', rfl, m1, m2, m3, m4, m5⟩
      · cases c <;> first | exact n3.ext he | exact n3.not_row.elim
      · refine ⟨rfl, ?_⟩
        obtain ⟨a, cap, rfl, hA, hs⟩ := m4.ref_inv
        refine .ref (.inr rfl) (fun sz2 xs2 hp2 => ?_)
        obtain ⟨x2, k1, k2⟩ := getP_row hRb hp2
        obtain rfl : x = x2 := Option.some.inj (h1.symm.trans k1)
        have e := Option.some.inj (h2.symm.trans k2)
        simp only [V.row.injEq] at e
        obtain ⟨rfl, rfl⟩ := e
        obtain ⟨o1, o2, o3, o4, o5⟩ := hs _ _ m2
        have hio : (mkCx C w' D b ⟨ty, sz, els⟩ (plOf C g0 src)).io (b, some (i, j)) = C.io (src i j) := by simp [mkCx, plOf]
        refine ⟨o1, o2, o3, fun h => o4 (hio ▸ h), fun g hgi => ?_⟩
        rw [hio] at hgi
        obtain ⟨p1, p2, ds, ty', p3, p4⟩ := o5 g hgi
        exact ⟨p1, p2, ds, ty', by show w'.heap[g]? = _; rw [(m5 g hgi).2]; exact p3, p4⟩
    | some ij =>
      obtain ⟨i, j⟩ := ij
      obtain ⟨x, h1, h2⟩ := getP_row hRb hq
      obtain ⟨v, n1, m1, m2, m3, m4, m5⟩ := rowof i x j s zs h1 h2
      obtain ⟨k1, k2, k3⟩ := hC.pl _ _ _ m2
      have hio : (mkCx C w' D b ⟨ty, sz, els⟩ (plOf C g0 src)).io (b, some (i, j)) = C.io (src i j) := by simp [mkCx, plOf]
      refine ⟨k1, fun h => k2 (hio ▸ h), fun g hgi => ?_⟩
      rw [hio] at hgi
      obtain ⟨ds, ty', p1, p2, p3, p4⟩ := k3 g hgi
      refine ⟨ds, ty', by show w'.heap[g]? = _; rw [(m5 g hgi).2]; exact p1, (fun h => by cases h), p3, fun i2 x2 j2 c2 h3 h4 => ?_⟩
      obtain ⟨v2, q1, q2, q3⟩ := p4 i2 x2 j2 c2 h3 h4
      refine ⟨v2, q1, q2, ?_⟩
      have hnr := m3 x2 (List.mem_of_getElem? h3) c2 (List.mem_of_getElem? h4)
      cases c2 <;> first | exact VR.ext he q3 | exact absurd rfl (hnr _ _)
  · cases q with
    | none =>
      cases q' with
      | none => rfl
      | some ij =>
        obtain ⟨i, j⟩ := ij
        obtain ⟨x, s, zs, k1, k2⟩ := rowact i j hq'
        obtain ⟨v, n1, m1, m2, m3, m4, m5⟩ := rowof i x j s zs k1 k2
        simp only [plOf, Option.some.injEq] at h1 h2
        exact absurd h1.symm (m5 g h2).1
    | some ij =>
      obtain ⟨i, j⟩ := ij
      obtain ⟨x, s, zs, k1, k2⟩ := rowact i j hq
      obtain ⟨v, n1, m1, m2, m3, m4, m5⟩ := rowof i x j s zs k1 k2
      cases q' with
      | none =>
        simp only [plOf, Option.some.injEq] at h1 h2
        exact absurd h2.symm (m5 g h1).1
      | some ij' =>
        obtain ⟨i', j'⟩ := ij'
        obtain ⟨x', s', zs', k1', k2'⟩ := rowact i' j' hq'
        obtain ⟨v', n1', m1', m2', m3', m4', m5'⟩ := rowof i' x' j' s' zs' k1' k2'
        simp only [plOf] at h1 h2
        have e := hC.inj _ _ g (by unfold Act?; rw [m2]; rfl) (by unfold Act?; rw [m2']; rfl) h1 h2
        obtain ⟨rfl, rfl⟩ := hinj i x j s zs i' x' j' s' zs' k1 k2 k1' k2' e
        rfl
  · cases q with
    | none =>
      simp only [plOf, Option.some.injEq] at h1
      subst h1
      exact hg0
    | some ij =>
      obtain ⟨i, j⟩ := ij
      obtain ⟨x, s, zs, k1, k2⟩ := rowact i j hq
      obtain ⟨v, n1, m1, m2, m3, m4, m5⟩ := rowof i x j s zs k1 k2
      exact .inr ⟨_, by unfold Act?; rw [m2]; rfl, m1, h1⟩

theorem same_alloc (w : World) (o : Obj) : Same w (w.alloc o) := ⟨rfl, rfl, rfl, by simp⟩

/-- A fresh block without inner rows. -/
theorem new_root (hC : Sat C) (hb : ¬ C.A b) {w' : World} (hw : Same C.w w') {els : List (List V)} {sz ty : Nat} {cs : Array Value} (hh : w'.heap = C.w.heap.push (.cells cs ty (0, 0)))
    (hsz : els.length * sz ≤ cs.size) (hes : ∀ x, x ∈ els → x.length = sz)
    (hcell : ∀ (i : Nat) x (j : Nat) c, els[i]? = some x → x[j]? = some c → ∃ v, cs[i * sz + j]? = some v ∧ v.oneCell' = true ∧ VR C v c) :
    ∃ C', C'.w = w' ∧ Sat C' ∧ Ext C C' ∧ Fr C C' ∧ C'.R = applyF C.R [(b, some ⟨ty, sz, els⟩)] ∧ C'.io (b, none) = some C.w.heap.size ∧ C'.A b ∧ ∀ n, C'.A n → C.A n ∨ n = b := by
  have S := root_sat (D := []) (src := fun _ _ => (0, none)) (g0 := C.w.heap.size) hC hb hw (ty := ty) (cs := cs) (fun k hk _ => by rw [hh, Array.getElem?_push_lt hk, Array.getElem?_eq_getElem hk]) (by rw [hh]; simp) hsz hes (.inl (Nat.le_refl _))
    (fun i x j c h1 h2 => by obtain ⟨v, n1, n2, n3⟩ := hcell i x j c h1 h2; exact ⟨v, n1, n2, .inl n3⟩)
    (fun i x j s zs i' x' j' s' zs' h1 h2 _ _ _ => by
      obtain ⟨v, n1, n2, n3⟩ := hcell i x j _ h1 h2
      exact n3.not_row.elim)
  refine ⟨_, rfl, S.1, S.2.1, S.2.2, ?_, by simp [mkCx, plOf], .inr rfl, fun _ h => h⟩
  funext n
  simp [mkCx, applyF]
end Go.Ev
namespace Go.Ev
open Go
variable {P : Program} {C : Cx} {b : Nat}

/-- A box: a new root of one element. -/
def boxV (t : TypeId) (i : TI) (b : Nat) (x : V) : Out := ⟨x.cells.all oneV = true ∧ x.cells.length = i.sz, .ptr (b, none) 0 0, [(b, some ⟨t, i.sz, [x.cells]⟩)]⟩

theorem box_root (hC : Sat C) (hb : ¬ C.A b) {t : TypeId} {cells : Array Value} {xs : List V} {n : Nat} (hl : cells.size = xs.length) (hn : xs.length = n)
    (h : ∀ (i : Nat) u c, cells[i]? = some u → xs[i]? = some c → VR C u c ∧ u.oneCell' = true) :
    ∃ C', C'.w = C.w.alloc (.cells cells t) ∧ Sat C' ∧ Ext C C' ∧ Fr C C' ∧ C'.R = applyF C.R [(b, some ⟨t, n, [xs]⟩)] ∧ VR C' (.pointer (some ⟨C.w.heap.size, 0, none⟩)) (.ptr (b, none) 0 0) ∧ ∀ n, C'.A n → C.A n ∨ n = b := by
  obtain ⟨C', h1, h2, h3, h4, h5, h6, h7, h8⟩ := new_root (els := [xs]) (sz := n) (ty := t) (cs := cells) hC hb (same_alloc C.w (.cells cells t)) rfl (by simp; omega) (by simp [hn])
    (fun i x j c hi hj => by
      cases i with
      | succ i => simp at hi
      | zero =>
        simp only [List.getElem?_cons_zero, Option.some.injEq] at hi
        subst hi
        have hlt := (List.getElem?_eq_some_iff.1 hj).1
        have hu : cells[j]? = some (cells[j]'(by omega)) := Array.getElem?_eq_getElem _
        exact ⟨_, by rw [Nat.zero_mul, Nat.zero_add]; exact hu, (h j _ c hu hj).2, (h j _ c hu hj).1⟩)
  exact ⟨C', h1, h2, h3, h4, h5, .ptr h7 (fun sz xs hp => ⟨_, h6, by simp⟩), h8⟩

theorem ok_box (hC : Sat C) (hb : ¬ C.A b) {t : TypeId} {i : TI} {v : Value} {x : V} (hx : VR C v x) (hc : (boxV t i b x).c) : OpOK P C (runV (Instr.box t v)) b (boxV t i b x) := by
  obtain ⟨ho, hl⟩ := hc
  obtain ⟨k1, k2⟩ := hx.cells ho
  obtain ⟨C', h1, h2, h3, h4, h5, h6, h7⟩ := box_root (t := t) hC hb k1 hl k2
  exact ⟨_, _, C', run_runV (by rw [h1]; rfl), .inl rfl, h2, h3, h4, h5, h6, h7⟩

def allocV (t : TypeId) (i : TI) (b : Nat) : Out := ⟨i.zero.all (·.oneCell') = true ∧ i.zero.length = i.sz ∧ i.sz ≠ 0, .ptr (b, none) 0 0, [(b, some ⟨t, i.sz, [i.zero.map .val]⟩)]⟩

theorem ok_alloc {t : TypeId} {i : TI} (hT : TIok P t i) (hC : Sat C) (hb : ¬ C.A b) (hc : (allocV t i b).c) : OpOK P C (runV (Instr.alloc t true (.tuple #[]))) b (allocV t i b) := by
  obtain ⟨ho, hl, hn⟩ := hc
  obtain ⟨z, hz, hzc⟩ := run_zero hT (fun e => by rw [e] at hl; exact hn hl.symm) C.w
  obtain ⟨C', h1, h2, h3, h4, h5, h6, h7⟩ := box_root (t := t) (cells := z.cells) (xs := i.zero.map .val) (n := i.sz) hC hb (by rw [hzc]; simp) (by simpa using hl) (fun k u c hu hcc => by
    rw [hzc] at hu
    simp only [List.getElem?_toArray] at hu
    simp only [List.getElem?_map, hu, Option.map_some, Option.some.injEq] at hcc
    subst hcc
    exact ⟨.fro (.val u), List.all_eq_true.1 ho u (List.mem_of_getElem? hu)⟩)
  refine ⟨_, _, C', run_runV (v := .pointer (some ⟨C.w.heap.size, 0, none⟩)) ?_, .inl rfl, h2, h3, h4, h5, h6, h7⟩
  rw [h1]
  simp only [Instr.alloc, Sem.run_bind, hz, Result.andThen_ok, newVar, newRow, run_newObj, Sem.run_pure]
  rfl

def indexAddrV (ie : TI) (R : Rs) (x i : V) : Option Out :=
  match x, i with
  | .list sz xs, .val (.int _ k) => some ⟨sz = ie.sz ∧ 0 ≤ k ∧ k < xs.length, .ept (xs.getD k.toNat []) 0, []⟩
  | .ref p off len, .val (.int _ k) =>
    match getP R p with
    | some (sz, _) => some ⟨sz = ie.sz ∧ 0 ≤ k ∧ k < len, .ptr p (off + k.toNat) 0, []⟩
    | none => none
  | _, _ => none

theorem ok_indexAddr {t : TypeId} {i ie : TI} (hT : TIok P t i) (he : i.elem ≠ 0) (hE : TIok P i.elem ie) (hC : Sat C) {v vk : Value} {x k : V} (hx : VR C v x) (hk : VR C vk k)
    {out : Out} (h : indexAddrV ie C.R x k = some out) (hc : out.c) :
    OpOK P C (runV (Instr.indexAt t v vk)) b out := by
  have run : ∀ (ad : Addr) (len cap : Nat) kd (n : Int), 0 ≤ n → n < len → (Instr.indexAt t (.slice (some ad) len cap) (.int kd n)).run P C.w = .ok (.pointer (some (ad.add (n.toNat * ie.sz)))) C.w := by
    intro ad len cap kd n h0 h1
    simp [Instr.indexAt, asIntOf, run_underlying (hT.elem he), h0, h1, run_sizeOf hE]
  cases x with
  | list sz xs =>
    cases k with
    | val u =>
      obtain rfl := hk.val_inv
      cases vk with
      | int kd n =>
        simp only [indexAddrV, Option.some.injEq] at h
        subst h
        obtain ⟨rfl, h0, h1⟩ := hc
        have hx := hx.list_inv
        cases hx with
        | list ad f hl hm hcap hs ha hF hcl hrd =>
          have hlt : n.toNat < xs.length := by omega
          have hpos : 0 < xs.length := by omega
          rw [hl] at hpos
          rw [ha hpos]
          have e : xs[n.toNat]? = some xs[n.toNat] := List.getElem?_eq_getElem hlt
          refine OpOK.pure hC (run_runV (run ad _ _ kd n h0 (by omega))) ?_
          rw [getD_of_get e]
          refine .fro (.ept (f n.toNat) (by rw [add_block]; exact hF hpos) (fun j c hj => ?_) (fun j c hj => ?_))
          · rw [Nat.zero_add] at hj
            rw [add_add]
            exact hcl _ _ _ _ e hj
          · rw [Nat.zero_add] at hj
            exact hrd _ _ _ _ e hj
      | _ => simp [indexAddrV] at h
    | _ => simp [indexAddrV] at h
  | ref p off len =>
    cases k with
    | val u =>
      obtain rfl := hk.val_inv
      cases vk with
      | int kd n =>
        obtain ⟨a, cap, rfl, hA, hp⟩ := hx.ref_inv
        simp only [indexAddrV] at h
        cases hg : getP C.R p with
        | none => rw [hg] at h; cases h
        | some q =>
          obtain ⟨sz, xs⟩ := q
          rw [hg] at h
          simp only [Option.some.injEq] at h
          subst h
          obtain ⟨rfl, h0, h1⟩ := hc
          obtain ⟨o1, o2, o3, o4, o5⟩ := hp _ _ hg
          cases hio : C.io p with
          | none => have := (o4 hio).2; omega
          | some g =>
            obtain ⟨p1, p2, ds, ty, p3, p4⟩ := o5 g hio
            rw [p1 (.inl (by omega))]
            refine OpOK.pure hC (run_runV (run _ _ _ kd n h0 h1)) (.ptr hA (fun sz' xs' hp' => ⟨g, hio, ?_⟩))
            rw [hg] at hp'
            simp only [Option.some.injEq, Prod.mk.injEq] at hp'
            obtain ⟨rfl, rfl⟩ := hp'
            rw [add_mk, ← Nat.add_mul, Nat.add_zero]
      | _ => simp [indexAddrV] at h
    | _ => simp [indexAddrV] at h
  | _ => simp [indexAddrV] at h
end Go.Ev
namespace Go.Ev
open Go
variable {P : Program} {C : Cx} {b : Nat}

theorem ok_extract (hC : Sat C) {v : Value} {vs : List V} {n : Nat} {x : V} (hx : VR C v (.tup vs)) (h : vs[n]? = some x) : OpOK P C (runV (Instr.extract v n)) b ⟨True, x, []⟩ := by
  obtain ⟨us, rfl, hl, hh⟩ := hx.tup_inv
  have hlt := (List.getElem?_eq_some_iff.1 h).1
  have hu : us[n]? = some (us[n]'(by omega)) := Array.getElem?_eq_getElem _
  exact OpOK.pure hC (run_runV (v := us[n]'(by omega)) (by simp only [Instr.extract, hu]; rfl)) (hh n _ x hu h)

def bop (i : TI) (op : BinOp) (a b : Value) : Option (Prop × Value) :=
  match op, a, b with
  | .add, .int k x, .int k' y => some (k = k', .int k (k.wrap (x + y)))
  | .sub, .int k x, .int k' y => some (k = k', .int k (k.wrap (x - y)))
  | .mul, .int k x, .int k' y => some (k = k', .int k (k.wrap (x * y)))
  | .quo, .int k x, .int k' y => some (k = k' ∧ y ≠ 0, .int k (k.wrap (x.tdiv y)))
  | .rem, .int k x, .int k' y => some (k = k' ∧ y ≠ 0, .int k (x.tmod y))
  | .eql, .int k x, .int k' y => some (k = k', .bool (x == y))
  | .neq, .int k x, .int k' y => some (k = k', .bool (x != y))
  | .lss, .int k x, .int k' y => some (k = k', .bool (decide (x < y)))
  | .leq, .int k x, .int k' y => some (k = k', .bool (decide (x ≤ y)))
  | .gtr, .int k x, .int k' y => some (k = k', .bool (decide (x > y)))
  | .geq, .int k x, .int k' y => some (k = k', .bool (decide (x ≥ y)))
  | .eql, .bool x, .bool y => some (i.k = 1, .bool (x == y))
  | .neq, .bool x, .bool y => some (i.k = 1, .bool (!(x == y)))
  | .add, .string x, .string y => some (((x.size + y.size : Nat) : Int) ≤ IntKind.i64.max, .string (x ++ y))
  | .eql, .string x, .string y => some (True, .bool (x.toList == y.toList))
  | .neq, .string x, .string y => some (True, .bool (!(x.toList == y.toList)))
  | _, _, _ => none

theorem run_equal_bool {t : TypeId} (h : P.underlying t = some .bool) (x y : Bool) (w : World) : (Op.equal t (.bool x) (.bool y)).run P w = .ok (x == y) w := by
  obtain ⟨d, hd⟩ : ∃ d, Op.maxDepth = d + 1 := ⟨9999, rfl⟩
  unfold Op.equal
  rw [hd]
  simp only [Op.equalIn, Sem.run_bind, run_underlying h, Result.andThen_ok, Sem.run_pure]

theorem ok_bin {t : TypeId} {i : TI} (hT : i.k = 1 → P.underlying t = some .bool) (hC : Sat C) {op : BinOp} {ox oy : Operand} {x y : Value} {vx vy : Value} (hx : VR C vx (.val x)) (hy : VR C vy (.val y)) {c : Prop} {v : Value} (h : bop i op x y = some (c, v)) (hc : c) :
    OpOK P C (runV (do eqGuard op t ox oy vx vy; binOp op t vx vy)) b ⟨c, .val v, []⟩ := by
  obtain rfl := hx.val_inv
  obtain rfl := hy.val_inv
  refine OpOK.pure hC (run_runV ?_) (.fro (.val v))
  have ne : ∀ (s : Sem Value) , (s.run P C.w = .ok v C.w) → (eqGuard op t ox oy vx vy).run P C.w = .ok () C.w → (do eqGuard op t ox oy vx vy; s : Sem Value).run P C.w = .ok v C.w := by
    intro s h1 h2
    simp only [Sem.run_bind, h2, Result.andThen_ok, h1]
  refine ne _ ?_ ?_
  · unfold bop at h
    split at h <;> simp only [Option.some.injEq, Prod.mk.injEq, reduceCtorEq] at h
    all_goals obtain ⟨rfl, rfl⟩ := h
    all_goals first
      | (obtain rfl := hc; simp [binOp, Op.intArith, Op.intCmp]; done)
      | (obtain ⟨rfl, hc⟩ := hc; simp [binOp, Op.intDiv, hc]; done)
      | (simp [binOp, run_equal_bool (hT hc)]; done)
      | (simp only [binOp, Op.stringOp]; rw [if_neg (by omega)]; rfl)
      | (simp [binOp, Op.stringOp]; done)
  · unfold bop at h
    split at h <;> simp only [Option.some.injEq, Prod.mk.injEq, reduceCtorEq] at h
    all_goals simp [eqGuard]

theorem ok_not (hC : Sat C) {v : Value} {x : Bool} (hx : VR C v (.val (.bool x))) : OpOK P C (runV (Op.unary .not v)) b ⟨True, .val (.bool (!x)), []⟩ := by
  obtain rfl := hx.val_inv
  exact OpOK.pure hC (run_runV (v := .bool (!x)) (by simp [Op.unary])) (.fro (.val _))

theorem ok_neg (hC : Sat C) {v : Value} {k : IntKind} {x : Int} (hx : VR C v (.val (.int k x))) : OpOK P C (runV (Op.unary .neg v)) b ⟨True, .val (.int k (k.wrap (-x))), []⟩ := by
  obtain rfl := hx.val_inv
  exact OpOK.pure hC (run_runV (v := .int k (k.wrap (-x))) (by simp [Op.unary, Op.intArith])) (.fro (.val _))

def lenV (i : TI) (x : V) : Option Out :=
  match x with
  | .ref _ _ len => some ⟨i.elem ≠ 0, .val (goInt len), []⟩
  | .list _ xs => some ⟨i.elem ≠ 0, .val (goInt xs.length), []⟩
  | .val (.string s) => some ⟨i.k = 2, .val (goInt s.size), []⟩
  | .val (.slice none 0 0) => some ⟨i.elem ≠ 0, .val (goInt 0), []⟩
  | _ => none

theorem ok_len {t ty : TypeId} {i : TI} (hT : TIok P t i) (hC : Sat C) {v : Value} {x : V} (hx : VR C v x) {out : Out} (h : lenV i x = some out) (hc : out.c) : OpOK P C (runV (Builtin.len_ #[t] ty #[v])) b out := by
  unfold lenV at h
  split at h <;> simp only [Option.some.injEq, reduceCtorEq] at h
  all_goals subst h
  · obtain ⟨a, cap, rfl, _⟩ := hx.ref_inv
    exact OpOK.pure hC (run_runV (by simp [Builtin.len_, run_underlying (hT.elem hc)])) (.fro (.val _))
  · have hx := hx.list_inv
    cases hx with
    | list ad f hl =>
      subst hl
      exact OpOK.pure hC (run_runV (by simp [Builtin.len_, run_underlying (hT.elem hc)])) (.fro (.val _))
  · obtain rfl := hx.val_inv
    exact OpOK.pure hC (run_runV (by simp [Builtin.len_, run_underlying (hT.ks hc)])) (.fro (.val _))
  · obtain rfl := hx.val_inv
    exact OpOK.pure hC (run_runV (by simp [Builtin.len_, run_underlying (hT.elem hc)])) (.fro (.val _))

theorem ok_conv {s d : TypeId} {i j : TI} (hS : TIok P s i) (hD : TIok P d j) (hC : Sat C) {v : Value} {k k' : IntKind} {n : Int} (hx : VR C v (.val (.int k n))) (hk : j.ik = some k') :
    OpOK P C (runV (convert s d v)) b ⟨True, .val (.int k' (k'.wrap n)), []⟩ := by
  obtain rfl := hx.val_inv
  obtain ⟨e, he, _⟩ := und_of hS
  refine OpOK.pure hC (run_runV (v := .int k' (k'.wrap n)) ?_) (.fro (.val _))
  have h2 := hD.ki _ hk
  simp only [convert, Sem.run_bind, run_underlying he, run_underlying h2, Result.andThen_ok, Conv.intToInt, Sem.run_pure]

/-- A bound of a cut. -/
def bndV : Option V → Nat → Option Int
  | none, d => some d
  | some (.val (.int _ n)), _ => some n
  | _, _ => none

def sliceV (ie : TI) (R : Rs) (x : V) (lo hi : Option V) : Option Out :=
  match x with
  | .list sz xs =>
    match bndV lo 0, bndV hi xs.length with
    | some l, some h => some ⟨sz = ie.sz ∧ 0 ≤ l ∧ l ≤ h ∧ h ≤ xs.length, .list sz ((xs.drop l.toNat).take (h.toNat - l.toNat)), []⟩
    | _, _ => none
  | .ref p off len =>
    match bndV lo 0, bndV hi len, getP R p with
    | some l, some h, some (sz, _) => some ⟨sz = ie.sz ∧ 0 ≤ l ∧ l ≤ h ∧ h ≤ len, .ref p (off + l.toNat) (h.toNat - l.toNat), []⟩
    | _, _, _ => none
  | _ => none

theorem run_bounds {len cap : Nat} {lo hi : Option V} {vl vh : Option Value} (hlo : ∀ x, lo = some x → ∃ v, vl = some v ∧ VR C v x) (hlo' : lo = none → vl = none) (hhi : ∀ x, hi = some x → ∃ v, vh = some v ∧ VR C v x) (hhi' : hi = none → vh = none)
    {l h : Int} (h1 : bndV lo 0 = some l) (h2 : bndV hi len = some h) (h3 : 0 ≤ l) (h4 : l ≤ h) (h5 : h ≤ len) (h6 : len ≤ cap) (w : World) :
    (Instr.sliceBounds true len cap vl vh none).run P w = .ok (l.toNat, h.toNat, cap) w := by
  have lo' : (vl = none ∧ l = 0) ∨ ∃ k, vl = some (.int k l) := by
    cases lo with
    | none =>
      simp only [bndV, Option.some.injEq] at h1
      exact .inl ⟨hlo' rfl, h1.symm⟩
    | some x =>
      obtain ⟨v, rfl, hv⟩ := hlo x rfl
      cases x <;> simp only [bndV, reduceCtorEq] at h1
      rename_i u
      obtain rfl := hv.val_inv
      cases v <;> simp only [reduceCtorEq, Option.some.injEq] at h1
      subst h1
      exact .inr ⟨_, rfl⟩
  have hi' : (vh = none ∧ h = len) ∨ ∃ k, vh = some (.int k h) := by
    cases hi with
    | none =>
      simp only [bndV, Option.some.injEq] at h2
      exact .inl ⟨hhi' rfl, h2.symm⟩
    | some x =>
      obtain ⟨v, rfl, hv⟩ := hhi x rfl
      cases x <;> simp only [bndV, reduceCtorEq] at h2
      rename_i u
      obtain rfl := hv.val_inv
      cases v <;> simp only [reduceCtorEq, Option.some.injEq] at h2
      subst h2
      exact .inr ⟨_, rfl⟩
  have e1 : l ≤ (h.toNat : Int) := by omega
  have e2 : h ≤ (cap : Int) := by omega
  have e3 : 0 ≤ h := by omega
  rcases lo' with ⟨rfl, rfl⟩ | ⟨k, rfl⟩ <;> rcases hi' with ⟨rfl, rfl⟩ | ⟨k', rfl⟩ <;> simp_all [Instr.sliceBounds, Instr.sliceBound, asIntOf]
end Go.Ev
namespace Go.Ev
open Go
variable {P : Program} {C : Cx} {b : Nat}

theorem ok_slice {t : TypeId} {i ie : TI} (hT : TIok P t i) (he : i.elem ≠ 0) (hE : TIok P i.elem ie) (hC : Sat C) {v : Value} {x : V} (hx : VR C v x) {lo hi : Option V} {vl vh : Option Value}
    (hlo : ∀ x, lo = some x → ∃ v, vl = some v ∧ VR C v x) (hlo' : lo = none → vl = none) (hhi : ∀ x, hi = some x → ∃ v, vh = some v ∧ VR C v x) (hhi' : hi = none → vh = none)
    {out : Out} (h : sliceV ie C.R x lo hi = some out) (hc : out.c) : OpOK P C (runV (Instr.sliceAt t v vl vh none)) b out := by
  have run : ∀ (a : Option Addr) (len cap : Nat) (l h : Int), bndV lo 0 = some l → bndV hi len = some h → 0 ≤ l → l ≤ h → h ≤ len → len ≤ cap →
      (Instr.sliceAt t (.slice a len cap) vl vh none).run P C.w = .ok (.slice (if cap = l.toNat then a else a.map (·.add (l.toNat * ie.sz))) (h.toNat - l.toNat) (cap - l.toNat)) C.w := by
    intro a len cap l h h1 h2 h3 h4 h5 h6
    have hb := run_bounds (P := P) hlo hlo' hhi hhi' h1 h2 h3 h4 h5 h6 C.w
    simp only [Instr.sliceAt, Sem.run_bind, run_underlying (hT.elem he), Result.andThen_ok, Instr.slice, hb, run_sizeOf hE, Sem.run_pure]
  cases x with
  | list sz xs =>
    simp only [sliceV] at h
    cases h1 : bndV lo 0 with
    | none => simp [h1] at h
    | some l =>
      cases h2 : bndV hi xs.length with
      | none => simp [h1, h2] at h
      | some r =>
        simp only [h1, h2, Option.some.injEq] at h
        subst h
        obtain ⟨rfl, c1, c2, c3⟩ := hc
        have hx := hx.list_inv
        cases hx with
        | list ad f hl hm hcap hs ha hF hcl hrd =>
          rename_i a len cap
          subst hl
          · refine OpOK.pure hC (run_runV (run _ _ _ l r h1 h2 c1 c2 c3 hcap)) (.fro ?_)
            have hle : r.toNat - l.toNat ≤ maxLen := by omega
            refine .list (if cap = l.toNat then ad else ad.add (l.toNat * ie.sz)) (fun i j => f (l.toNat + i) j) (by simp; omega) hle (by omega) (fun x hx => hs x (List.mem_of_mem_drop (List.mem_of_mem_take hx))) (fun hp => ?_) (fun hp => ?_) (fun i x j c hi hj => ?_) (fun i x j c hi hj => ?_)
            · have hne : cap ≠ l.toNat := by omega
              rw [if_neg hne, if_neg hne, ha (by omega)]
              rfl
            · have hne : cap ≠ l.toNat := by omega
              rw [if_neg hne, add_block]
              exact hF (by omega)
            · rw [List.getElem?_take] at hi
              split at hi
              · rw [List.getElem?_drop] at hi
                have hlt := (List.getElem?_eq_some_iff.1 hi).1
                have hne : cap ≠ l.toNat := by omega
                rw [if_neg hne, add_add, ← Nat.add_assoc, ← Nat.add_mul]
                exact hcl _ _ _ _ hi hj
              · cases hi
            · rw [List.getElem?_take] at hi
              split at hi
              · rw [List.getElem?_drop] at hi
                exact hrd _ _ _ _ hi hj
              · cases hi
  | ref p off len =>
    simp only [sliceV] at h
    cases h1 : bndV lo 0 with
    | none => simp [h1] at h
    | some l =>
      cases h2 : bndV hi len with
      | none => simp [h1, h2] at h
      | some r =>
        cases hg : getP C.R p with
        | none => simp [h1, h2, hg] at h
        | some q =>
          obtain ⟨sz, xs⟩ := q
          simp only [h1, h2, hg, Option.some.injEq] at h
          subst h
          obtain ⟨rfl, c1, c2, c3⟩ := hc
          obtain ⟨a, cap, rfl, hA, hp⟩ := hx.ref_inv
          obtain ⟨o1, o2, o3, o4, o5⟩ := hp _ _ hg
          refine OpOK.pure hC (run_runV (run _ _ _ l r h1 h2 c1 c2 c3 o2)) (.ref hA (fun sz' xs' hp' => ?_))
          rw [hg] at hp'
          simp only [Option.some.injEq, Prod.mk.injEq] at hp'
          obtain ⟨rfl, rfl⟩ := hp'
          refine ⟨by omega, by omega, by omega, fun hn => ?_, fun g hgi => ?_⟩
          · obtain ⟨rfl, rfl⟩ := o4 hn
            constructor
            · split <;> rfl
            · omega
          · obtain ⟨p1, p2, ds, ty, p3, p4⟩ := o5 g hgi
            refine ⟨fun hpos => ?_, ?_, ds, ty, p3, by rw [← p4]; congr 1; omega⟩
            · by_cases hcl : cap = l.toNat
              · have h0 : off = 0 := by omega
                have h1 : l.toNat = 0 := by omega
                rw [if_pos hcl, p1 (.inr h0), h1, Nat.add_zero]
              · rw [if_neg hcl, p1 (.inl (by omega)), Option.map_some, add_mk, ← Nat.add_mul]
            · split
              · exact p2
              · cases a with
                | none => exact absurd rfl p2
                | some ad => simp
  | _ => simp [sliceV] at h
end Go.Ev
set_option linter.unusedSectionVars false
namespace Go.Ev
open Go
variable {P : Program} {C : Cx} {b : Nat}

section run
variable {w : World} {t u ty e : TypeId} {inf : TypeInfo} {z : Value} (ht : P.underlying t = some (.slice e)) {e' : TypeId} (hu : P.underlying u = some (.slice e')) (hi : P.info? e = some inf) (hz : inf.zero = some z) {size : Nat} (hsize : inf.size = size)
  {vx : Value} {m : Nat} {news : List Value} (hlen : ∀ w', (Builtin.lenOf vx).run P w' = .ok m w') (hnews : ∀ w', w'.heap = w.heap → (Builtin.firstCells size m vx).run P w' = .ok news.toArray w')
include ht hu hi hz hsize hlen hnews

theorem run_app_nil0 (hm : m = 0) (hn : news = []) : (Builtin.append_ #[t, u] ty #[.slice none 0 0, vx]).run P w = .ok (.slice none 0 0) w := by
  subst hm; subst hn; subst hsize
  simp [Builtin.append_, run_underlying ht, run_underlying hu, Ev.run_sizeOf, sizeOf, typeInfo, hi, hlen, hnews w rfl]

theorem run_app_room {g n cap : Nat} {cur : Array Value} {ty' : TypeId} (hg : w.heap[g]? = some (.cells cur ty' (0, 0))) (hl : news.length = m * size) (h1 : ∀ v ∈ news, v.oneCell' = true) (hroom : n + m ≤ cap) (hfit : n * size + news.length ≤ cur.size) :
    (Builtin.append_ #[t, u] ty #[.slice (some ⟨g, 0, none⟩) n cap, vx]).run P w = .ok (.slice (some ⟨g, 0, none⟩) (n + m) cap) (w.setRow g (cur.toList.take (n * size) ++ news ++ cur.toList.drop (n * size + news.length)).toArray) := by
  subst hsize
  have hst := run_storeCells_at P g (n * inf.size) ty' news 0 cur w hg (by simpa using hfit) h1
  simp only [Nat.add_zero] at hst
  simp [Builtin.append_, run_underlying ht, run_underlying hu, sizeOf, typeInfo, hi, hlen, hroom, hnews w rfl, add_mk, hst]

theorem run_app_grow {base : Option Addr} {n cap : Nat} {olds : List Value} (holds : ∀ w', w'.heap = w.heap → (Builtin.firstCells size n (.slice base n cap)).run P w' = .ok olds.toArray w') (hgt : cap < n + m) (h63 : n + m ≤ maxLen) (hfit : (n + m) * inf.bytes ≤ 140737488355328) :
    (Builtin.append_ #[t, u] ty #[.slice base n cap, vx]).run P w = .ok (.slice (some ⟨w.heap.size, 0, none⟩) (n + m) (grownCap w (n + m) cap e))
      (w.drew.alloc (.cells (olds.toArray ++ news.toArray ++ Builtin.zeroCells z.cells (grownCap w (n + m) cap e - (n + m))) e)) := by
  subst hsize
  have hn : ¬ (n + m ≤ cap) := by omega
  have h63' : ¬ (9223372036854775807 < ((n : Int) + (m : Int))) := by simp only [maxLen] at h63; omega
  have h48 := growslice_fits (need := n + m) (old := cap) (bytes := inf.bytes) (by omega) hfit
  have h48' : ¬ (281474976710656 < Builtin.nextslicecap (n + m) cap * inf.bytes) := by omega
  have h1 := holds w.drew rfl
  have h2 := hnews w.drew rfl
  simp [Builtin.append_, run_underlying ht, run_underlying hu, sizeOf, typeInfo, zeroValue, hi, hz, hlen, hn, h63', h48', Question.forced, h1, h2, newRow, grownCap]
  congr 2
  apply Array.ext'
  simp
end run

theorem sat_norow (hC : Sat C) {n : Nat} {ij : Nat × Nat} {s : Nat} {zs} (h : getP C.R (n, some ij) = some (s, zs)) : NoRow zs := by
  obtain ⟨k1, k2, k3⟩ := hC.pl _ _ _ h
  intro z hz d hd s' ys e
  subst e
  cases hi : C.io (n, some ij) with
  | none => rw [k2 hi] at hz; simp at hz
  | some g =>
    obtain ⟨cs, ty, m1, m2, m3, m4⟩ := k3 g hi
    obtain ⟨i, hi1⟩ := List.getElem?_of_mem hz
    obtain ⟨j, hj1⟩ := List.getElem?_of_mem hd
    obtain ⟨v, n1, n2, n3, n4⟩ := m4 i z j _ hi1 hj1
    cases n3

theorem getP_cell {R : Rs} {n i j s : Nat} {r : Root} {x : List V} {zs} (hr : R n = some r) (hx : r.els[i]? = some x) (hj : x[j]? = some (.row s zs)) : getP R (n, some (i, j)) = some (s, zs) := by
  simp only [getP, hr, getD_of_get hx, getD_of_get hj]

theorem act_of {R : Rs} {n : Nat} {r : Root} (hr : R n = some r) : getP R (n, none) = some (r.sz, r.els) := by
  simp only [getP, hr]

/-- One row behind another: a new root. -/
theorem app_root (hC : Sat C) (hb : ¬ C.A b) {w' : World} (hw : Same C.w w') {D : List Nat} {n m : Nat} (hnm : n ≠ m) {xs ys : List (List V)} {sz ty g0 : Nat} {cs : Array Value}
    (hg : w'.heap[g0]? = some (.cells cs ty (0, 0))) (hg0 : C.w.heap.size ≤ g0 ∨ (n ∈ D ∧ (∃ r, C.R n = some r) ∧ C.io (n, none) = some g0)) (hother : ∀ k, k < C.w.heap.size → k ≠ g0 → w'.heap[k]? = C.w.heap[k]?)
    (hfit : (xs.length + ys.length) * sz ≤ cs.size) (hxs : ∀ x, x ∈ xs → x.length = sz) (hys : ∀ y, y ∈ ys → y.length = sz)
    (hdest : ∀ (i : Nat) x (j : Nat) c, xs[i]? = some x → x[j]? = some c → ∃ v, cs[i * sz + j]? = some v ∧ v.oneCell' = true ∧ (VR C v c ∨ ∃ r, n ∈ D ∧ C.R n = some r ∧ r.els = xs ∧ ClR C (n, none) i j v c))
    (hsrc : ∀ (i : Nat) x (j : Nat) c, ys[i]? = some x → x[j]? = some c → ∃ v, cs[(xs.length + i) * sz + j]? = some v ∧ v.oneCell' = true ∧ (VR C v c ∨ ∃ r, m ∈ D ∧ C.R m = some r ∧ r.els = ys ∧ ClR C (m, none) i j v c)) :
    ∃ C', C'.w = w' ∧ Sat C' ∧ Ext C C' ∧ Fr C C' ∧ (C'.R = fun k => if k = b then some ⟨ty, sz, xs ++ ys⟩ else if k ∈ D then none else C.R k) ∧ C'.io (b, none) = some g0 ∧ C'.A b ∧ ∀ k, C'.A k → C.A k ∨ k = b := by
  have blkne : ∀ k s i j zs, (∃ r, C.R k = some r) → getP C.R (k, some (i, j)) = some (s, zs) → ∀ g, C.io (k, some (i, j)) = some g → g ≠ g0 ∧ w'.heap[g]? = C.w.heap[g]? := by
    intro k s i j zs hk hp g hgi
    have ha : Act? C (k, some (i, j)) := by unfold Act?; rw [hp]; rfl
    have hlt := hC.owned_lt ⟨_, ha, hgi⟩
    have hne : g ≠ g0 := by
      rcases hg0 with h | ⟨_, ⟨r, hr⟩, hio⟩
      · omega
      · intro e
        subst e
        have := hC.inj _ _ g ha (show Act? C (n, none) by unfold Act?; rw [act_of hr]; rfl) hgi hio
        cases this
    exact ⟨hne, hother g hlt hne⟩
  have conv : ∀ k xs' (i j : Nat) x c v, (VR C v c ∨ ∃ r, k ∈ D ∧ C.R k = some r ∧ r.els = xs' ∧ ClR C (k, none) i j v c) → xs'[i]? = some x → x[j]? = some c →
      VR C v c ∨ ∃ s zs, c = .row s zs ∧ k ∈ D ∧ getP C.R (k, some (i, j)) = some (s, zs) ∧ NoRow zs ∧ VR C v (.ref (k, some (i, j)) 0 zs.length) ∧ ∀ g, C.io (k, some (i, j)) = some g → g ≠ g0 ∧ w'.heap[g]? = C.w.heap[g]? := by
    intro k xs' i j x c v h hi hj
    rcases h with h | ⟨r, hD, hr, rfl, h⟩
    · exact .inl h
    · cases c with
      | row s zs =>
        have hp := getP_cell hr hi hj
        exact .inr ⟨s, zs, rfl, hD, hp, sat_norow hC hp, h.2, blkne _ _ _ _ _ ⟨r, hr⟩ hp⟩
      | _ => exact .inl h
  have S := root_sat (src := fun i j => if i < xs.length then (n, some (i, j)) else (m, some (i - xs.length, j))) (els := xs ++ ys) (sz := sz) hC hb hw (D := D)
    (fun k hk hD => hother k hk (fun e => by
      subst e
      rcases hg0 with h | ⟨h1, ⟨r, hr⟩, h3⟩
      · omega
      · exact hD ⟨(n, none), by unfold Act?; rw [act_of hr]; rfl, h1, h3⟩)) hg (by rw [List.length_append]; exact hfit)
    (fun x hx => (List.mem_append.1 hx).elim (hxs x) (hys x))
    (hg0.imp id (fun ⟨h1, ⟨r, hr⟩, h3⟩ => ⟨(n, none), by unfold Act?; rw [act_of hr]; rfl, h1, h3⟩))
    (fun i x j c hi hj => by
      by_cases hlt : i < xs.length
      · rw [List.getElem?_append_left hlt] at hi
        obtain ⟨v, n1, n2, n3⟩ := hdest i x j c hi hj
        refine ⟨v, n1, n2, ?_⟩
        rw [if_pos hlt]
        exact conv _ _ i j x c v n3 hi hj
      · rw [List.getElem?_append_right (by omega)] at hi
        obtain ⟨v, n1, n2, n3⟩ := hsrc _ x j c hi hj
        refine ⟨v, by rw [← n1]; congr 2; congr 1; omega, n2, ?_⟩
        rw [if_neg hlt]
        exact conv _ _ _ j x c v n3 hi hj)
    (fun i x j s zs i' x' j' s' zs' h1 h2 h3 h4 e => by
      by_cases a : i < xs.length <;> by_cases a' : i' < xs.length
      · rw [if_pos a, if_pos a'] at e; simp at e; exact e
      · rw [if_pos a, if_neg a'] at e; simp at e; exact absurd e.1 hnm
      · rw [if_neg a, if_pos a'] at e; simp at e; exact absurd e.1.symm hnm
      · rw [if_neg a, if_neg a'] at e; simp at e; omega)
  exact ⟨_, rfl, S.1, S.2.1, S.2.2, rfl, by simp [mkCx, plOf], .inr rfl, fun _ h => h⟩
end Go.Ev
namespace Go.Ev
open Go
variable {P : Program} {C : Cx} {b : Nat}

/-- A part of a list; all of it where it is all. -/
def cut (xs : List (List V)) (off len : Nat) : List (List V) := if off = 0 ∧ len = xs.length then xs else (xs.drop off).take len
theorem cut_eq (xs : List (List V)) (off len : Nat) : cut xs off len = (xs.drop off).take len := by
  unfold cut
  split
  · rename_i h; obtain ⟨rfl, rfl⟩ := h; simp
  · rfl

/-- The elements of a slice. -/
def elsOf (R : Rs) (x : V) : Option (Nat × List (List V)) :=
  match x with
  | .list sz xs => some (sz, xs)
  | .ref p off len => (getP R p).map fun (sz, xs) => (sz, cut xs off len)
  | _ => none

def flatV (m sz : Nat) (f : Nat → Nat → Value) : List Value := (List.range (m * sz)).map fun q => f (q / sz) (q % sz)

theorem flatV_get {m sz i j : Nat} {f : Nat → Nat → Value} (hi : i < m) (hj : j < sz) : (flatV m sz f)[i * sz + j]? = some (f i j) := by
  have h1 : i * sz + j < m * sz := by
    have := Nat.mul_le_mul_right sz (show i + 1 ≤ m from hi)
    rw [Nat.add_mul, Nat.one_mul] at this
    omega
  have h2 : (i * sz + j) / sz = i := by rw [Nat.mul_comm, Nat.mul_add_div (by omega), Nat.div_eq_of_lt hj]; rfl
  have h3 : (i * sz + j) % sz = j := by rw [Nat.mul_comm, Nat.mul_add_mod, Nat.mod_eq_of_lt hj]
  simp [flatV, h1, h2, h3]

theorem flatV_inv {m sz q : Nat} {f : Nat → Nat → Value} {v : Value} (h : (flatV m sz f)[q]? = some v) : ∃ i j, i < m ∧ j < sz ∧ q = i * sz + j ∧ v = f i j := by
  unfold flatV at h
  rw [List.getElem?_map, Option.map_eq_some_iff] at h
  obtain ⟨q', h1, rfl⟩ := h
  obtain ⟨rfl, h2⟩ := range_get h1
  have hsz : 0 < sz := by
    rcases Nat.eq_zero_or_pos sz with h | h
    · subst h; simp at h2
    · exact h
  refine ⟨q' / sz, q' % sz, ?_, Nat.mod_lt _ hsz, ?_, rfl⟩
  · exact Nat.div_lt_of_lt_mul (by rw [Nat.mul_comm]; exact h2)
  · rw [Nat.mul_comm]; exact (Nat.div_add_mod q' sz).symm

/-- What is behind a slice, as the model reads it. -/
theorem src_rep (hC : Sat C) {v : Value} {x : V} (hx : VR C v x) {sz : Nat} {ys : List (List V)} (h : elsOf C.R x = some (sz, ys)) :
    ∃ (a : Option Addr) (cap : Nat) (f : Nat → Nat → Value), v = .slice a ys.length cap ∧ ys.length ≤ cap ∧ ys.length ≤ maxLen ∧ (∀ y, y ∈ ys → y.length = sz) ∧ (0 < ys.length → ∃ ad, a = some ad ∧ ∀ i j, i < ys.length → j < sz → C.w.cell? (ad.add (i * sz + j)) = some (f i j)) ∧
      ∀ (i : Nat) y (j : Nat) c, ys[i]? = some y → y[j]? = some c → (f i j).oneCell' = true ∧ (VR C (f i j) c ∨ ∃ p off len, x = .ref p off len ∧ ClR C p (off + i) j (f i j) c) := by
  cases x with
  | list sz' xs =>
    simp only [elsOf, Option.some.injEq, Prod.mk.injEq] at h
    obtain ⟨rfl, rfl⟩ := h
    have hx := hx.list_inv
    cases hx with
    | list ad f hl hm hcap hs ha hF hcl hrd =>
      subst hl
      refine ⟨_, _, f, rfl, hcap, hm, hs, fun hp => ⟨ad, ha hp, fun i j hi hj => ?_⟩, fun i y j c hi hj => ⟨(hcl i y j c hi hj).2, .inl (.fro (hrd i y j c hi hj))⟩⟩
      have e : xs[i]? = some xs[i] := List.getElem?_eq_getElem hi
      have hl := hs _ (List.mem_of_getElem? e)
      exact (hcl i _ j _ e (List.getElem?_eq_getElem (by omega))).1
  | ref p off len =>
    simp only [elsOf, Option.map_eq_some_iff] at h
    obtain ⟨⟨s, xs⟩, hg, h⟩ := h
    simp only [Prod.mk.injEq, cut_eq] at h
    obtain ⟨rfl, rfl⟩ := h
    obtain ⟨a, cap, rfl, hA, hp⟩ := hx.ref_inv
    obtain ⟨o1, o2, o3, o4, o5⟩ := hp _ _ hg
    have hlen : ((xs.drop off).take len).length = len := by simp; omega
    obtain ⟨k1, k2, k3⟩ := hC.pl _ _ _ hg
    have hyget : ∀ (i : Nat) y, ((xs.drop off).take len)[i]? = some y → xs[off + i]? = some y ∧ i < len := by
      intro i y hy
      rw [List.getElem?_take] at hy
      split at hy
      · rw [List.getElem?_drop] at hy; exact ⟨hy, by assumption⟩
      · cases hy
    cases hio : C.io p with
    | none =>
      obtain ⟨rfl, rfl⟩ := o4 hio
      have h0 : len = 0 := by omega
      subst h0
      refine ⟨none, 0, fun _ _ => undef, by rw [hlen], by rw [hlen]; omega, by rw [hlen]; omega, by simp, fun h => by rw [hlen] at h; omega, fun i y j c hi => by simp at hi⟩
    | some g =>
      obtain ⟨p1, p2, ds, ty, p3, p4⟩ := o5 g hio
      obtain ⟨cs, ty', m1, m2, m3, m4⟩ := k3 g hio
      rw [p3] at m1
      simp only [Option.some.injEq, Obj.cells.injEq] at m1
      obtain ⟨rfl, rfl, _⟩ := m1
      refine ⟨a, cap, fun i j => ds.toList.getD ((off + i) * s + j) undef, by rw [hlen], by rw [hlen]; exact o2, by rw [hlen]; omega, fun y hy => k1 y (List.mem_of_mem_drop (List.mem_of_mem_take hy)), fun hpos => ⟨⟨g, off * s, none⟩, ?_, fun i j hi hj => ?_⟩, fun i y j c hi hj => ?_⟩
      · rw [hlen] at hpos
        exact p1 (.inl (by omega))
      · rw [hlen] at hi
        rw [add_mk, cell_of_row _ _ _ _ _ _ p3]
        have e : off * s + (i * s + j) = (off + i) * s + j := by rw [Nat.add_mul]; omega
        have hlt : (off + i) * s + j < ds.size := by
          have := fit (k := off + i) (n := xs.length) (sz := s) (j := j) (m := 1) (by omega) (by omega)
          omega
        rw [e, Array.getElem?_eq_getElem hlt]
        simp [List.getD_eq_getElem?_getD, hlt]
      · obtain ⟨h1, h2⟩ := hyget i y hi
        obtain ⟨u, n1, n2, n3⟩ := m4 (off + i) y j c h1 hj
        have e : ds.toList.getD ((off + i) * s + j) undef = u := by
          rw [List.getD_eq_getElem?_getD]
          have : ds.toList[(off + i) * s + j]? = some u := by simpa using n1
          rw [this]; rfl
        dsimp only
        rw [e]
        exact ⟨n2, .inr ⟨p, off, len, rfl, n3⟩⟩
  | _ => simp [elsOf] at h

/-- The model's reading of such cells. -/
theorem run_first {w : World} {a : Option Addr} {m cap sz : Nat} {f : Nat → Nat → Value} (h : 0 < m → ∃ ad, a = some ad ∧ ∀ i j, i < m → j < sz → w.cell? (ad.add (i * sz + j)) = some (f i j)) :
    ∀ w', w'.heap = w.heap → (Builtin.firstCells sz m (.slice a m cap)).run P w' = .ok (flatV m sz f).toArray w' := by
  intro w' hw
  rcases Nat.eq_zero_or_pos m with rfl | hm
  · cases a with
    | none => simp [Builtin.firstCells, flatV]
    | some ad =>
      have := run_loadCells_list (P := P) w' ad [] (by simp)
      simpa [Builtin.firstCells, flatV] using this
  · obtain ⟨ad, rfl, hc⟩ := h hm
    have := run_loadCells_list (P := P) w' ad (flatV m sz f) (fun q v hv => by
      obtain ⟨i, j, hi, hj, rfl, rfl⟩ := flatV_inv hv
      rw [← hc i j hi hj]
      exact World.cell?_of_block (by rw [hw]))
    have hl : (flatV m sz f).length = m * sz := by simp [flatV]
    rw [hl] at this
    simpa [Builtin.firstCells] using this

/-- A root without a block and without elements. -/
theorem empty_root (hC : Sat C) (hb : ¬ C.A b) {w' : World} (hw : Same C.w w') (hh : w'.heap = C.w.heap) (D : List Nat) (ty sz : Nat) :
    ∃ C', C'.w = w' ∧ Sat C' ∧ Ext C C' ∧ Fr C C' ∧ (C'.R = fun k => if k = b then some ⟨ty, sz, []⟩ else if k ∈ D then none else C.R k) ∧ C'.io (b, none) = none ∧ C'.A b ∧ ∀ k, C'.A k → C.A k ∨ k = b := by
  have hRb : (mkCx C w' D b ⟨ty, sz, []⟩ (fun _ => none)).R b = some ⟨ty, sz, []⟩ := by simp [mkCx]
  have S := mk_sat (r := ⟨ty, sz, []⟩) (pl := fun _ => none) (D := D) hC hb hw (fun k hk _ => by rw [hh])
    (fun he q s zs hq => by
      cases q with
      | none =>
        simp only [getP, hRb, Option.some.injEq, Prod.mk.injEq] at hq
        obtain ⟨rfl, rfl⟩ := hq
        exact ⟨by simp, fun _ => rfl, fun g hg => by simp [mkCx] at hg⟩
      | some ij =>
        obtain ⟨i, j⟩ := ij
        obtain ⟨x, h1, _⟩ := getP_row hRb hq
        simp at h1)
    (fun q q' g _ _ h => by cases h) (fun q g _ h => by cases h)
  exact ⟨_, rfl, S.1, S.2.1, S.2.2, rfl, by simp [mkCx], .inr rfl, fun _ h => h⟩

theorem app_core (hC : Sat C) (hb : ¬ C.A b) {D : List Nat} {n m : Nat} (hnm : n ≠ m) {xs ys : List (List V)} {e t u e' ty : TypeId} {ie : TI} (ht : P.underlying t = some (.slice e)) (hu : P.underlying u = some (.slice e')) (hE : TIok P e ie)
    (hz0 : ie.zero.length = ie.sz) (hsz : ie.sz ≠ 0)
    {base : Option Addr} {cap : Nat} (hbase : (base = none ∧ cap = 0 ∧ xs = []) ∨ ∃ g cs r, base = some ⟨g, 0, none⟩ ∧ n ∈ D ∧ C.R n = some r ∧ r.els = xs ∧ r.sz = ie.sz ∧ C.io (n, none) = some g ∧ C.w.heap[g]? = some (.cells cs e (0, 0)) ∧ cap * ie.sz = cs.size ∧ xs.length ≤ cap ∧ cap ≤ maxLen)
    {a : Option Addr} {c' : Nat} {f : Nat → Nat → Value} (hys : ∀ y, y ∈ ys → y.length = ie.sz) (hsrc : 0 < ys.length → ∃ ad, a = some ad ∧ ∀ i j, i < ys.length → j < ie.sz → C.w.cell? (ad.add (i * ie.sz + j)) = some (f i j))
    (hcells : ∀ (i : Nat) y (j : Nat) c, ys[i]? = some y → y[j]? = some c → (f i j).oneCell' = true ∧ (VR C (f i j) c ∨ ∃ r, m ∈ D ∧ C.R m = some r ∧ r.els = ys ∧ ClR C (m, none) i j (f i j) c))
    (h63 : xs.length + ys.length ≤ maxLen) (hby : (xs.length + ys.length) * ie.bytes ≤ 140737488355328) :
    ∃ v' C', (Builtin.append_ #[t, u] ty #[.slice base xs.length cap, .slice a ys.length c']).run P C.w = .ok v' C'.w ∧ Sat C' ∧ Ext C C' ∧ Fr C C' ∧
      (C'.R = fun k => if k = b then some ⟨e, ie.sz, xs ++ ys⟩ else if k ∈ D then none else C.R k) ∧ VR C' v' (.ref (b, none) 0 (xs.length + ys.length)) ∧ ∀ k, C'.A k → C.A k ∨ k = b := by
  obtain ⟨inf, hi, his, hib⟩ := info_of hE
  have hzf : ie.zero ≠ [] := fun e => by rw [e] at hz0; exact hsz hz0.symm
  obtain ⟨z, hz, hzc⟩ : ∃ z, inf.zero = some z ∧ z.cells = ie.zero.toArray := by
    have h1 := hE.zero hzf
    simp only [hi, Option.map_some, Option.some.injEq] at h1
    cases ez : inf.zero with
    | none => simp [ez] at h1
    | some z => simp only [ez, Option.map_some, Option.some.injEq] at h1; exact ⟨z, rfl, h1⟩
  have hzs : z.cells.size = ie.sz := by rw [hzc]; simpa using hz0
  have hlen : ∀ w', (Builtin.lenOf (.slice a ys.length c')).run P w' = .ok ys.length w' := fun w' => by simp [Builtin.lenOf]
  have hnews := run_first (P := P) (sz := ie.sz) (cap := c') hsrc
  have hfl : (flatV ys.length ie.sz f).length = ys.length * ie.sz := by simp [flatV]
  have hone : ∀ v ∈ flatV ys.length ie.sz f, v.oneCell' = true := by
    intro v hv
    obtain ⟨q, hq⟩ := List.getElem?_of_mem hv
    obtain ⟨i, j, h1, h2, _, rfl⟩ := flatV_inv hq
    have e1 : ys[i]? = some ys[i] := List.getElem?_eq_getElem h1
    have e2 := hys _ (List.mem_of_getElem? e1)
    exact (hcells i _ j _ e1 (List.getElem?_eq_getElem (by omega))).1
  have hsrcAt : ∀ (i : Nat) y (j : Nat) c, ys[i]? = some y → y[j]? = some c → (flatV ys.length ie.sz f)[i * ie.sz + j]? = some (f i j) := by
    intro i y j c h1 h2
    have e2 := hys y (List.mem_of_getElem? h1)
    have l1 := (List.getElem?_eq_some_iff.1 h1).1
    have l2 := (List.getElem?_eq_some_iff.1 h2).1
    exact flatV_get l1 (by omega)
  have fin : ∀ (w' : World) (g0 : Nat) (cs' : Array Value) (cap' : Nat), Same C.w w' → w'.heap[g0]? = some (.cells cs' e (0, 0)) → (C.w.heap.size ≤ g0 ∨ (n ∈ D ∧ (∃ r, C.R n = some r) ∧ C.io (n, none) = some g0)) →
      (∀ k, k < C.w.heap.size → k ≠ g0 → w'.heap[k]? = C.w.heap[k]?) → cap' * ie.sz = cs'.size → xs.length + ys.length ≤ cap' → cap' ≤ maxLen → (∀ x, x ∈ xs → x.length = ie.sz) →
      (∀ (i : Nat) x (j : Nat) c, xs[i]? = some x → x[j]? = some c → ∃ v, cs'[i * ie.sz + j]? = some v ∧ v.oneCell' = true ∧ (VR C v c ∨ ∃ r, n ∈ D ∧ C.R n = some r ∧ r.els = xs ∧ ClR C (n, none) i j v c)) →
      (∀ q v, (flatV ys.length ie.sz f)[q]? = some v → cs'[xs.length * ie.sz + q]? = some v) →
      ∃ C', C'.w = w' ∧ Sat C' ∧ Ext C C' ∧ Fr C C' ∧ (C'.R = fun k => if k = b then some ⟨e, ie.sz, xs ++ ys⟩ else if k ∈ D then none else C.R k) ∧ VR C' (.slice (some ⟨g0, 0, none⟩) (xs.length + ys.length) cap') (.ref (b, none) 0 (xs.length + ys.length)) ∧ ∀ k, C'.A k → C.A k ∨ k = b := by
    intro w' g0 cs' cap' hw hg hg0 hother hcs hcap hcm hxs hdest hnew
    obtain ⟨C', k1, k2, k3, k4, k5, k6, k7, k8⟩ := app_root (ys := ys) hC hb hw hnm hg hg0 hother (by rw [← hcs]; exact Nat.mul_le_mul_right _ hcap) hxs hys hdest (fun i y j c h1 h2 => by
      refine ⟨f i j, ?_, hcells i y j c h1 h2⟩
      have := hnew _ _ (hsrcAt i y j c h1 h2)
      rw [Nat.add_mul, Nat.add_assoc]
      exact this)
    refine ⟨C', k1, k2, k3, k4, k5, .ref k7 (fun sz' xs' hp => ?_), k8⟩
    have hRb : C'.R b = some ⟨e, ie.sz, xs ++ ys⟩ := by rw [k5]; simp
    rw [act_of hRb] at hp
    simp only [Option.some.injEq, Prod.mk.injEq] at hp
    obtain ⟨rfl, rfl⟩ := hp
    refine ⟨by simp, hcap, hcm, (fun h => by rw [k6] at h; cases h), fun g hgi => ?_⟩
    rw [k6] at hgi
    obtain rfl := Option.some.inj hgi
    exact ⟨fun _ => by simp, by simp, cs', e, by rw [k1]; exact hg, by rw [Nat.zero_add]; exact hcs⟩
  have zlen : ∀ k, (Builtin.zeroCells z.cells k).size = k * ie.sz := fun k => by rw [size_zeroCells, hzs]
  rcases hbase with ⟨rfl, rfl, rfl⟩ | ⟨g, cs, r, rfl, hnD, hr, hre, hrs, hio, hg, hcs, hxc, hcm⟩
  · rcases Nat.eq_zero_or_pos ys.length with h0 | hpos
    · have hy0 : ys = [] := List.eq_nil_of_length_eq_zero h0
      subst hy0
      have hr := run_app_nil0 (ty := ty) ht hu hi hz his hlen hnews rfl (by simp [flatV])
      obtain ⟨C', k1, k2, k3, k4, k5, k6, k7, k8⟩ := empty_root (w' := C.w) hC hb ⟨rfl, rfl, rfl, Nat.le_refl _⟩ rfl D e ie.sz
      refine ⟨_, C', by rw [k1]; exact hr, k2, k3, k4, k5, .ref k7 (fun sz' xs' hp => ?_), k8⟩
      have hRb : C'.R b = some ⟨e, ie.sz, []⟩ := by rw [k5]; simp
      rw [act_of hRb] at hp
      simp only [Option.some.injEq, Prod.mk.injEq] at hp
      obtain ⟨rfl, rfl⟩ := hp
      exact ⟨by simp, by simp, by simp, fun _ => ⟨rfl, rfl⟩, fun g hg => by rw [k6] at hg; cases hg⟩
    · have hr := run_app_grow (ty := ty) (base := none) (n := 0) (cap := 0) (olds := []) ht hu hi hz his hlen hnews (fun w' _ => by simp [Builtin.firstCells]) (by omega) (by simpa using h63) (by rw [hib]; simpa using hby)
      have hge := grownCap_ge C.w (0 + ys.length) 0 e
      have hcm := grownCap_le_maxLen C.w (0 + ys.length) 0 e (by simpa using h63)
      obtain ⟨C', k1, k2, k3, k4, k5, k6, k7⟩ := fin (C.w.drew.alloc (.cells (([] : List Value).toArray ++ (flatV ys.length ie.sz f).toArray ++ Builtin.zeroCells z.cells (grownCap C.w (0 + ys.length) 0 e - (0 + ys.length))) e)) C.w.heap.size _ (grownCap C.w (0 + ys.length) 0 e) ⟨rfl, rfl, rfl, by simp⟩ (heap_alloc_new C.w.drew _) (.inl (Nat.le_refl _)) (fun k hk _ => heap_alloc_old C.w.drew _ k hk)
        (by
          have hge' := hge
          simp only [Array.size_append, List.size_toArray, zlen, List.length_nil, hfl, Nat.zero_add] at hge' ⊢
          rw [← Nat.add_mul]
          congr 1; omega) (by simpa using hge) hcm (by simp) (by simp) (fun q v hq => by
          have hl := (List.getElem?_eq_some_iff.1 hq).1
          simp only [List.length_nil, Nat.zero_mul, Nat.zero_add]
          rw [Array.getElem?_append_left (by simpa using hl)]
          simpa using hq)
      refine ⟨_, C', by rw [k1]; exact hr, k2, k3, k4, k5, ?_, k7⟩
      simpa using k6
  · obtain ⟨p1, p2, p3⟩ := hC.pl _ _ _ (act_of hr)
    obtain ⟨cs0, ty0, q1, q2, q3, q4⟩ := p3 g hio
    rw [hg] at q1
    simp only [Option.some.injEq, Obj.cells.injEq] at q1
    obtain ⟨rfl, rfl, _⟩ := q1
    rw [hre, hrs] at q3 q4
    rw [hre, hrs] at p1
    by_cases hroom : xs.length + ys.length ≤ cap
    · have hfit : xs.length * ie.sz + (flatV ys.length ie.sz f).length ≤ cs.size := by
        rw [hfl, ← hcs, ← Nat.add_mul]; exact Nat.mul_le_mul_right _ hroom
      have hr' := run_app_room (ty := ty) ht hu hi hz his hlen hnews hg hfl hone hroom hfit
      have hsp : ∀ q, ((cs.toList.take (xs.length * ie.sz) ++ flatV ys.length ie.sz f ++ cs.toList.drop (xs.length * ie.sz + (flatV ys.length ie.sz f).length)).toArray)[q]? = if xs.length * ie.sz ≤ q ∧ q < xs.length * ie.sz + (flatV ys.length ie.sz f).length then (flatV ys.length ie.sz f)[q - xs.length * ie.sz]? else cs[q]? := by
        intro q
        rw [List.getElem?_toArray, splice_get _ _ _ _ (by rw [Array.length_toList]; exact hfit)]
        simp
      obtain ⟨C', k1, k2, k3, k4, k5, k6, k7⟩ := fin (C.w.setRow g _) g _ cap ⟨rfl, rfl, rfl, by simp [World.setRow]⟩ (setRow_heap _ _ _ (cs.toList.take (xs.length * ie.sz) ++ flatV ys.length ie.sz f ++ cs.toList.drop (xs.length * ie.sz + (flatV ys.length ie.sz f).length)).toArray _ _ hg) (.inr ⟨hnD, ⟨r, hr⟩, hio⟩) (fun k _ hk => setRow_other _ _ _ _ hk)
        (by simp only [List.size_toArray, List.length_append, List.length_take, List.length_drop, Array.length_toList]; omega) hroom hcm p1
        (fun i x j c h1 h2 => by
          obtain ⟨v, n1, n2, n3⟩ := q4 i x j c h1 h2
          have l1 := (List.getElem?_eq_some_iff.1 h1).1
          have l2 := (List.getElem?_eq_some_iff.1 h2).1
          have l3 := p1 x (List.mem_of_getElem? h1)
          have := fit (k := i) (n := xs.length) (sz := ie.sz) (j := j) (m := 1) l1 (by omega)
          refine ⟨v, by rw [hsp, if_neg (by omega)]; exact n1, n2, .inr ⟨r, hnD, hr, hre, n3⟩⟩)
        (fun q v hq => by
          have hl := (List.getElem?_eq_some_iff.1 hq).1
          rw [hsp, if_pos (by omega), Nat.add_sub_cancel_left]
          exact hq)
      exact ⟨_, C', by rw [k1]; exact hr', k2, k3, k4, k5, k6, k7⟩
    · have holds := run_first (P := P) (w := C.w) (a := some ⟨g, 0, none⟩) (m := xs.length) (cap := cap) (sz := ie.sz) (f := fun i j => cs.toList.getD (i * ie.sz + j) undef) (fun hp => ⟨_, rfl, fun i j hi hj => by
        rw [add_mk, Nat.zero_add, cell_of_row _ _ _ _ _ _ hg]
        have := fit (k := i) (n := xs.length) (sz := ie.sz) (j := j) (m := 1) hi (by omega)
        have hlt : i * ie.sz + j < cs.size := by omega
        rw [Array.getElem?_eq_getElem hlt]
        simp [List.getD_eq_getElem?_getD, hlt]⟩)
      have hr' := run_app_grow (ty := ty) (base := some ⟨g, 0, none⟩) (n := xs.length) (cap := cap) ht hu hi hz his hlen hnews holds (by omega) h63 (by rw [hib]; exact hby)
      have hge := grownCap_ge C.w (xs.length + ys.length) cap e
      have hcm' := grownCap_le_maxLen C.w (xs.length + ys.length) cap e h63
      have hol : (flatV xs.length ie.sz (fun i j => cs.toList.getD (i * ie.sz + j) undef)).length = xs.length * ie.sz := by simp [flatV]
      obtain ⟨C', k1, k2, k3, k4, k5, k6, k7⟩ := fin (C.w.drew.alloc (.cells ((flatV xs.length ie.sz (fun i j => cs.toList.getD (i * ie.sz + j) undef)).toArray ++ (flatV ys.length ie.sz f).toArray ++ Builtin.zeroCells z.cells (grownCap C.w (xs.length + ys.length) cap e - (xs.length + ys.length))) e)) C.w.heap.size _ (grownCap C.w (xs.length + ys.length) cap e) ⟨rfl, rfl, rfl, by simp⟩ (heap_alloc_new C.w.drew _) (.inl (Nat.le_refl _)) (fun k hk _ => heap_alloc_old C.w.drew _ k hk)
        (by
          simp only [Array.size_append, List.size_toArray, zlen, hol, hfl]
          rw [← Nat.add_mul, ← Nat.add_mul]
          congr 1; omega) hge hcm' p1
        (fun i x j c h1 h2 => by
          obtain ⟨v, n1, n2, n3⟩ := q4 i x j c h1 h2
          have l1 := (List.getElem?_eq_some_iff.1 h1).1
          have l2 := (List.getElem?_eq_some_iff.1 h2).1
          have l3 := p1 x (List.mem_of_getElem? h1)
          have := fit (k := i) (n := xs.length) (sz := ie.sz) (j := j) (m := 1) l1 (by omega)
          refine ⟨v, ?_, n2, .inr ⟨r, hnD, hr, hre, n3⟩⟩
          rw [Array.getElem?_append_left (by simp only [Array.size_append, List.size_toArray, hol]; omega), Array.getElem?_append_left (by simp only [List.size_toArray, hol]; omega), List.getElem?_toArray, flatV_get l1 (by omega)]
          have : cs.toList[i * ie.sz + j]? = some v := by simpa using n1
          rw [List.getD_eq_getElem?_getD, this]; rfl)
        (fun q v hq => by
          have hl := (List.getElem?_eq_some_iff.1 hq).1
          rw [Array.getElem?_append_left (by simp only [Array.size_append, List.size_toArray, hol]; omega), Array.getElem?_append_right (by simp only [List.size_toArray, hol]; omega)]
          simp only [List.size_toArray, hol, Nat.add_sub_cancel_left, List.getElem?_toArray]
          exact hq)
      exact ⟨_, C', by rw [k1]; exact hr', k2, k3, k4, k5, k6, k7⟩
end Go.Ev
