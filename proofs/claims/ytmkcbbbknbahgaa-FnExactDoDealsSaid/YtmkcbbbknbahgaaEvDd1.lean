/- Part 1 of the proof: the evaluator and the contracts of functions. -/
import Derived.Below
import Derived.KernelRfl
import Derived.Laws.AppendOwn
import Derived.Laws.CopyRow
import Derived.Laws.Entries
import Derived.Laws.IdiomCopy
import Derived.Laws.MakeOwn
import Derived.Laws.OwnMore
import Derived.Test.YtmkcbbbknbahgaaEvDd0
set_option linter.unusedVariables false
set_option linter.unusedSimpArgs false
namespace Go.Ev
open Go
variable {P : Program} {C : Cx} {b : Nat}

def notRow : V → Bool
  | .row .. => false
  | _ => true

def srcK (ie : TI) (R : Rs) (n : Nat) (x : V) (ys : List (List V)) : Option (Prop × List Nat) :=
  match x with
  | .list _ _ => some (True, [])
  | .ref (m, none) 0 k =>
    match ie.hp with
    | true => match R m with
      | some q => some (k = q.els.length ∧ n ≠ m, [m])
      | none => none
    | false => some (ys.all (·.all notRow) = true, [])
  | .ref _ _ _ => match ie.hp with
    | true => none
    | false => some (ys.all (·.all notRow) = true, [])
  | _ => none

/-- The kills and the new root. -/
def wrOf (D : List Nat) (b : Nat) (r : Root) : List (Nat × Option Root) := D.map (fun k => (k, none)) ++ [(b, some r)]

theorem applyF_wrOf (b : Nat) (r : Root) : ∀ (D : List Nat) (R : Rs), applyF R (wrOf D b r) = fun k => if k = b then some r else if k ∈ D then none else R k
  | [], R => by funext k; simp [wrOf, applyF]
  | d :: D, R => by
    show applyF (fun m => if m = d then none else R m) (wrOf D b r) = _
    rw [applyF_wrOf b r D]
    funext k
    by_cases h1 : k = b
    · simp [h1]
    · by_cases h2 : k = d
      · simp [h1, h2]
      · simp [h1, h2]

def appendV (i ie : TI) (R : Rs) (b : Nat) (s x : V) : Option Out :=
  match elsOf R x with
  | none => none
  | some (sz, ys) =>
    match s with
    | .ref (n, none) 0 len =>
      match R n, srcK ie R n x ys with
      | some r, some (c, ks) =>
        some ⟨(sz = ie.sz ∧ r.ty = i.elem ∧ r.sz = ie.sz ∧ len = r.els.length) ∧ (len + ys.length ≤ maxLen ∧ (len + ys.length) * ie.bytes ≤ 140737488355328) ∧ c, .ref (b, none) 0 (len + ys.length), wrOf (n :: ks) b ⟨i.elem, ie.sz, r.els ++ ys⟩⟩
      | _, _ => none
    | .val (.slice none 0 0) =>
      match srcK ie R b x ys with
      | some (c, ks) => some ⟨sz = ie.sz ∧ (ys.length ≤ maxLen ∧ ys.length * ie.bytes ≤ 140737488355328) ∧ c, .ref (b, none) 0 ys.length, wrOf ks b ⟨i.elem, ie.sz, ys⟩⟩
      | none => none
    | _ => none

theorem src_cells (hC : Sat C) {v : Value} {x : V} (hx : VR C v x) {ie : TI} {n m : Nat} {ys : List (List V)} (h : elsOf C.R x = some (ie.sz, ys)) {c : Prop} {ks : List Nat} (hk : srcK ie C.R n x ys = some (c, ks)) (hc : c) :
    ∃ (m : Nat) (a : Option Addr) (cap : Nat) (f : Nat → Nat → Value), v = .slice a ys.length cap ∧ (∀ y, y ∈ ys → y.length = ie.sz) ∧ (0 < ys.length → ∃ ad, a = some ad ∧ ∀ i j, i < ys.length → j < ie.sz → C.w.cell? (ad.add (i * ie.sz + j)) = some (f i j)) ∧
      n ≠ m ∧ ∀ (i : Nat) y (j : Nat) c, ys[i]? = some y → y[j]? = some c → (f i j).oneCell' = true ∧ (VR C (f i j) c ∨ ∃ r, m ∈ ks ∧ C.R m = some r ∧ r.els = ys ∧ ClR C (m, none) i j (f i j) c) := by
  obtain ⟨a, cap, f, h1, _, _, h2, h3, h4⟩ := src_rep hC hx h
  have plain : (∀ (i : Nat) y (j : Nat) c, ys[i]? = some y → y[j]? = some c → (f i j).oneCell' = true ∧ VR C (f i j) c) → ∃ (m : Nat) (a : Option Addr) (cap : Nat) (f : Nat → Nat → Value), v = .slice a ys.length cap ∧ (∀ y, y ∈ ys → y.length = ie.sz) ∧ (0 < ys.length → ∃ ad, a = some ad ∧ ∀ i j, i < ys.length → j < ie.sz → C.w.cell? (ad.add (i * ie.sz + j)) = some (f i j)) ∧
      n ≠ m ∧ ∀ (i : Nat) y (j : Nat) c, ys[i]? = some y → y[j]? = some c → (f i j).oneCell' = true ∧ (VR C (f i j) c ∨ ∃ r, m ∈ ks ∧ C.R m = some r ∧ r.els = ys ∧ ClR C (m, none) i j (f i j) c) := fun hp => ⟨n + 1, a, cap, f, h1, h2, h3, by omega, fun i y j c hi hj => ⟨(hp i y j c hi hj).1, .inl (hp i y j c hi hj).2⟩⟩
  have norow : ys.all (·.all notRow) = true → ∀ (i : Nat) y (j : Nat) c, ys[i]? = some y → y[j]? = some c → (f i j).oneCell' = true ∧ VR C (f i j) c := by
    intro hn i y j c hi hj
    obtain ⟨k1, k2⟩ := h4 i y j c hi hj
    refine ⟨k1, ?_⟩
    rcases k2 with k2 | ⟨p, off, len, rfl, k2⟩
    · exact k2
    · have := List.all_eq_true.1 (List.all_eq_true.1 hn y (List.mem_of_getElem? hi)) c (List.mem_of_getElem? hj)
      cases c <;> first | exact k2 | (simp [notRow] at this)
  cases x with
  | list sz xs =>
    refine plain (fun i y j c hi hj => ?_)
    obtain ⟨k1, k2⟩ := h4 i y j c hi hj
    rcases k2 with k2 | ⟨p, off, len, e, _⟩
    · exact ⟨k1, k2⟩
    · cases e
  | ref p off len =>
    cases hh : ie.hp with
    | false =>
      refine plain (norow ?_)
      obtain ⟨m', q⟩ := p
      cases q with
      | some _ =>
        simp only [srcK, hh, Option.some.injEq, Prod.mk.injEq] at hk
        rw [hk.1]; exact hc
      | none =>
        cases off <;> simp only [srcK, hh, Option.some.injEq, Prod.mk.injEq] at hk <;> (rw [hk.1]; exact hc)
    | true =>
      obtain ⟨m, q⟩ := p
      cases q with
      | some _ => simp [srcK, hh] at hk
      | none =>
        cases off with
        | succ _ => simp [srcK, hh] at hk
        | zero =>
          simp only [srcK, hh] at hk
          cases hq : C.R m with
          | none => simp [hq] at hk
          | some q =>
            simp only [hq, Option.some.injEq, Prod.mk.injEq] at hk
            obtain ⟨rfl, rfl⟩ := hk
            obtain ⟨e1, e2⟩ := hc
            have hys : q.els = ys := by
              simp only [elsOf, act_of hq, Option.map_some, Option.some.injEq, Prod.mk.injEq, cut, e1, true_and, if_true] at h
              exact h.2
            refine ⟨m, a, cap, f, h1, h2, h3, e2, fun i y j c hi hj => ?_⟩
            obtain ⟨k1, k2⟩ := h4 i y j c hi hj
            refine ⟨k1, ?_⟩
            rcases k2 with k2 | ⟨p, off, len, e, k2⟩
            · exact .inl k2
            · simp only [V.ref.injEq] at e
              obtain ⟨rfl, rfl, rfl⟩ := e
              rw [Nat.zero_add] at k2
              exact .inr ⟨q, by simp, hq, hys, k2⟩
  | _ => simp [elsOf] at h

theorem ok_append {t u ty : TypeId} {i ie j : TI} (hT : TIok P t i) (he : i.elem ≠ 0) (hU : TIok P u j) (hj : j.elem ≠ 0) (hE : TIok P i.elem ie) (hz : ie.zero.length = ie.sz) (hsz : ie.sz ≠ 0) (hC : Sat C) (hb : ¬ C.A b)
    {vs vx : Value} {s x : V} (hs : VR C vs s) (hx : VR C vx x) {out : Out} (h : appendV i ie C.R b s x = some out) (hc : out.c) : OpOK P C (runV (Builtin.append_ #[t, u] ty #[vs, vx])) b out := by
  unfold appendV at h
  cases hel : elsOf C.R x with
  | none => rw [hel] at h; cases h
  | some q =>
    obtain ⟨sz, ys⟩ := q
    rw [hel] at h
    dsimp only at h
    split at h
    · rename_i n len
      cases hr : C.R n with
      | none => simp [hr] at h
      | some r =>
        cases hk : srcK ie C.R n x ys with
        | none => simp [hr, hk] at h
        | some ck =>
          obtain ⟨c, ks⟩ := ck
          simp only [hr, hk, Option.some.injEq] at h
          subst h
          obtain ⟨⟨rfl, c1, c2, rfl⟩, ⟨c3, c4⟩, hc⟩ := hc
          obtain ⟨m, a, cap', f, rfl, k2, k3, k4, k5⟩ := src_cells (m := 0) hC hx hel hk hc
          obtain ⟨base, cap, rfl, hA, hp⟩ := hs.ref_inv
          obtain ⟨o1, o2, o3, o4, o5⟩ := hp _ _ (act_of hr)
          have hbase : (base = none ∧ cap = 0 ∧ r.els = []) ∨ ∃ g cs r', base = some ⟨g, 0, none⟩ ∧ n ∈ n :: ks ∧ C.R n = some r' ∧ r'.els = r.els ∧ r'.sz = ie.sz ∧ C.io (n, none) = some g ∧ C.w.heap[g]? = some (.cells cs i.elem (0, 0)) ∧ cap * ie.sz = cs.size ∧ r.els.length ≤ cap ∧ cap ≤ maxLen := by
            cases hio : C.io (n, none) with
            | none =>
              obtain ⟨rfl, rfl⟩ := o4 hio
              exact .inl ⟨rfl, rfl, List.eq_nil_of_length_eq_zero (by omega)⟩
            | some g =>
              obtain ⟨p1, p2, cs, ty', p3, p4⟩ := o5 g hio
              obtain ⟨cs2, ty2, q1, q2, q3, q4⟩ := (hC.pl _ _ _ (act_of hr)).2.2 g hio
              rw [p3] at q1
              simp only [Option.some.injEq, Obj.cells.injEq] at q1
              obtain ⟨rfl, rfl, _⟩ := q1
              have hty := q2 rfl r hr
              refine .inr ⟨g, cs, r, by rw [p1 (.inr rfl), Nat.zero_mul], by simp, hr, rfl, c2, rfl, by rw [p3, ← hty, c1], by rw [← c2, ← p4, Nat.zero_add], o2, o3⟩
          obtain ⟨v', C', r1, r2, r3, r4, r5, r6, r7⟩ := app_core (D := n :: ks) (ty := ty) hC hb k4 (hT.elem he) (hU.elem hj) hE hz hsz hbase k2 k3
            (fun i' y j' c' hi hj' => ⟨(k5 i' y j' c' hi hj').1, (k5 i' y j' c' hi hj').2.imp id (fun ⟨r', h1, h2⟩ => ⟨r', by simp [h1], h2⟩)⟩) c3 c4
          exact ⟨_, v', C', run_runV r1, .inl rfl, r2, r3, r4, by rw [r5, applyF_wrOf], r6, r7⟩
    · cases hk : srcK ie C.R b x ys with
      | none => simp [hk] at h
      | some ck =>
        obtain ⟨c, ks⟩ := ck
        simp only [hk, Option.some.injEq] at h
        subst h
        obtain ⟨rfl, ⟨c3, c4⟩, hc⟩ := hc
        obtain ⟨m, a, cap', f, rfl, k2, k3, k4, k5⟩ := src_cells (m := 0) hC hx hel hk hc
        obtain rfl := hs.val_inv
        obtain ⟨v', C', r1, r2, r3, r4, r5, r6, r7⟩ := app_core (D := ks) (xs := []) (ty := ty) (base := none) (cap := 0) hC hb k4 (hT.elem he) (hU.elem hj) hE hz hsz (.inl ⟨rfl, rfl, rfl⟩) k2 k3 k5 (by simpa using c3) (by simpa using c4)
        refine ⟨_, v', C', run_runV r1, .inl rfl, r2, r3, r4, by rw [r5, applyF_wrOf]; simp, ?_, r7⟩
        simpa using r6
    · cases h
end Go.Ev
namespace Go.Ev
open Go
variable {P : Program} {C : Cx} {b : Nat}

theorem foldset (off : Nat) : ∀ (l : List Value) (k : Nat) (A : Array Value), ((l.zipIdx k).foldl (fun A p => A.setIfInBounds (off + p.2) p.1) A).size = A.size ∧
    ∀ q, ((l.zipIdx k).foldl (fun A p => A.setIfInBounds (off + p.2) p.1) A)[q]? = if off + k ≤ q ∧ q < off + k + l.length ∧ q < A.size then l[q - (off + k)]? else A[q]?
  | [], k, A => by
    refine ⟨rfl, fun q => ?_⟩
    have : ¬ (off + k ≤ q ∧ q < off + k + ([] : List Value).length ∧ q < A.size) := by simp; omega
    rw [if_neg this]; rfl
  | c :: l, k, A => by
    obtain ⟨h1, h2⟩ := foldset off l (k + 1) (A.setIfInBounds (off + k) c)
    simp only [List.zipIdx_cons, List.foldl_cons]
    refine ⟨by rw [h1]; simp, fun q => ?_⟩
    rw [h2]
    simp only [Array.size_setIfInBounds, List.length_cons]
    by_cases a : off + (k + 1) ≤ q ∧ q < off + (k + 1) + l.length ∧ q < A.size
    · rw [if_pos a, if_pos (by omega)]
      have : q - (off + k) = (q - (off + (k + 1))) + 1 := by omega
      rw [this, List.getElem?_cons_succ]
    · rw [if_neg a, Array.getElem?_setIfInBounds]
      by_cases e : off + k = q
      · subst e
        by_cases hl : off + k < A.size
        · rw [if_pos rfl, if_pos hl, if_pos (by omega)]; simp
        · rw [if_pos rfl, if_neg hl, if_neg (by omega)]
          rw [Array.getElem?_eq_none (by omega)]
      · rw [if_neg e, if_neg (by omega)]

theorem fill_cells (v : Value) (off : Nat) (A : Array Value) : (v.cells.zipIdx.foldl (fun cs (x : Value × Nat) => cs.setIfInBounds (off + x.2) x.1) A).size = A.size ∧
    ∀ q, (v.cells.zipIdx.foldl (fun cs (x : Value × Nat) => cs.setIfInBounds (off + x.2) x.1) A)[q]? = if off ≤ q ∧ q < off + v.cells.size ∧ q < A.size then v.cells[q - off]? else A[q]? := by
  have h := foldset off v.cells.toList 0 A
  simp only [Nat.add_zero, Array.length_toList] at h
  rw [← Array.foldl_toList, Array.toList_zipIdx]
  refine ⟨h.1, fun q => ?_⟩
  rw [h.2]
  simp

theorem fill_slice (sz : Nat) : ∀ (vs : List Value) (k : Nat) (A : Array Value), (k + vs.length) * sz ≤ A.size → (∀ v, v ∈ vs → v.cells.size = sz) →
    ∃ A', Instr.fill (fun i => some (i * sz, sz)) A ((List.range' k vs.length).zip vs) = some A' ∧ A'.size = A.size ∧
      (∀ (i : Nat) v (j : Nat) c, vs[i]? = some v → v.cells[j]? = some c → A'[(k + i) * sz + j]? = some c) ∧ ∀ q, q < k * sz → A'[q]? = A[q]?
  | [], k, A, h, hv => ⟨A, rfl, rfl, fun i v j c hi => by simp at hi, fun _ _ => rfl⟩
  | v :: vs, k, A, h, hv => by
    have hsz := hv v (by simp)
    have hk : (k + 1) * sz ≤ A.size := Nat.le_trans (Nat.mul_le_mul_right _ (by simp)) h
    rw [Nat.add_mul, Nat.one_mul] at hk
    obtain ⟨f1, f2⟩ := fill_cells v (k * sz) A
    obtain ⟨A', h1, h2, h3, h4⟩ := fill_slice sz vs (k + 1) _ (by rw [f1]; rw [List.length_cons, show k + (vs.length + 1) = k + 1 + vs.length by omega] at h; exact h) (fun u hu => hv u (by simp [hu]))
    refine ⟨A', ?_, h2.trans f1, fun i u j c hi hj => ?_, fun q hq => ?_⟩
    · rw [List.length_cons, List.range'_succ, List.zip_cons_cons]
      simp only [Instr.fill, hsz]
      rw [if_neg (by simp; omega)]
      exact h1
    · cases i with
      | zero =>
        simp only [List.getElem?_cons_zero, Option.some.injEq] at hi
        subst hi
        have hlt := (Array.getElem?_eq_some_iff.1 hj).1
        rw [Nat.add_zero, h4 _ (by rw [Nat.add_mul, Nat.one_mul]; omega), f2, if_pos (by omega), Nat.add_sub_cancel_left]
        exact hj
      | succ i =>
        have := h3 i u j c (by simpa using hi) hj
        rw [show k + (i + 1) = k + 1 + i by omega]
        exact this
    · rw [h4 q (by rw [Nat.add_mul]; omega), f2, if_neg (by omega)]

def absCell (R : Rs) : V → V
  | .ref (m, none) 0 k => match R m with
    | some q => .row q.sz q.els
    | none => .any
  | c => c

def absCond (R : Rs) : V → Prop
  | .ref (m, none) 0 k => match R m with
    | some q => k = q.els.length ∧ q.els.all (·.all notRow) = true
    | none => False
  | .any => False
  | c => oneV c = true

def absName : V → Option Nat
  | .ref (m, none) 0 _ => some m
  | _ => none

def andL : List Prop → Prop
  | [] => True
  | p :: ps => p ∧ andL ps

theorem andL_mem : ∀ {l : List Prop}, andL l → ∀ p, p ∈ l → p
  | [], _, p, h => by cases h
  | q :: l, hl, p, h => by
    cases h with
    | head => exact hl.1
    | tail _ h => exact andL_mem hl.2 p h

def cellsOf (xs : List V) : List (List V) := xs.map V.cells

def buildSliceV (i ie : TI) (R : Rs) (b len : Nat) (ps : List (Nat × V)) : Option Out :=
  let els := cellsOf (ps.map (·.2))
  some ⟨(ps.map (·.1) = List.range len ∧ len * ie.sz ≤ 16777216 ∧ (∀ x, x ∈ els → x.length = ie.sz)) ∧ andL (els.flatten.map (absCond R)) ∧ (els.flatten.filterMap absName).Nodup,
    .ref (b, none) 0 len, wrOf (els.flatten.filterMap absName) b ⟨i.elem, ie.sz, els.map (·.map (absCell R))⟩⟩

theorem norow_of {zs : List (List V)} (h : zs.all (·.all notRow) = true) : NoRow zs := by
  intro z hz d hd s ys e
  subst e
  have := List.all_eq_true.1 (List.all_eq_true.1 h z hz) _ hd
  simp [notRow] at this

theorem absCell_row {R : Rs} {c : V} {s : Nat} {zs} (hnr : ∀ s ys, c ≠ .row s ys) (h : absCell R c = .row s zs) : ∃ m k q, c = .ref (m, none) 0 k ∧ R m = some q ∧ q.sz = s ∧ q.els = zs := by
  unfold absCell at h
  split at h
  · rename_i m k
    cases e : R m with
    | none => simp [e] at h
    | some q => simp only [e, V.row.injEq] at h; exact ⟨m, k, q, rfl, e, h.1, h.2⟩
  · exact absurd h (hnr _ _)

theorem nodup_row {f : V → Option Nat} : ∀ {y : List V}, (y.filterMap f).Nodup → ∀ {j j' : Nat} {c c' : V} {m : Nat}, y[j]? = some c → y[j']? = some c' → f c = some m → f c' = some m → j = j'
  | [], _, j, j', c, c', m, h2, _, _, _ => by simp at h2
  | d :: y, n1, j, j', c, c', m, h2, h4, h5, h6 => by
    rw [List.filterMap_cons] at n1
    have inn : ∀ {j : Nat} {c : V}, y[j]? = some c → f c = some m → m ∈ y.filterMap f := fun h k => List.mem_filterMap.2 ⟨_, List.mem_of_getElem? h, k⟩
    have n1' : (y.filterMap f).Nodup := by
      split at n1
      · exact n1
      · exact (List.nodup_cons.1 n1).2
    cases j with
    | zero =>
      simp only [List.getElem?_cons_zero, Option.some.injEq] at h2
      subst h2
      cases j' with
      | zero => rfl
      | succ j' =>
        simp only [List.getElem?_cons_succ] at h4
        rw [h5] at n1
        exact absurd (inn h4 h6) (List.nodup_cons.1 n1).1
    | succ j =>
      simp only [List.getElem?_cons_succ] at h2
      cases j' with
      | zero =>
        simp only [List.getElem?_cons_zero, Option.some.injEq] at h4
        subst h4
        rw [h6] at n1
        exact absurd (inn h2 h5) (List.nodup_cons.1 n1).1
      | succ j' =>
        simp only [List.getElem?_cons_succ] at h4
        rw [nodup_row n1' h2 h4 h5 h6]

theorem nodup_flat {f : V → Option Nat} : ∀ {els : List (List V)}, (els.flatten.filterMap f).Nodup → ∀ {i : Nat} {x : List V} {j : Nat} {c : V} {i' : Nat} {x' : List V} {j' : Nat} {c' : V} {m : Nat}, els[i]? = some x → x[j]? = some c → els[i']? = some x' → x'[j']? = some c' → f c = some m → f c' = some m → i = i' ∧ j = j'
  | [], _, i, x, j, c, i', x', j', c', m, h1, _, _, _, _, _ => by simp at h1
  | y :: els, hn, i, x, j, c, i', x', j', c', m, h1, h2, h3, h4, h5, h6 => by
    rw [List.flatten_cons, List.filterMap_append, List.nodup_append] at hn
    obtain ⟨n1, n2, n3⟩ := hn
    have inY : ∀ {j : Nat} {c : V}, y[j]? = some c → f c = some m → m ∈ y.filterMap f := fun h k => List.mem_filterMap.2 ⟨_, List.mem_of_getElem? h, k⟩
    have inE : ∀ {i : Nat} {x : List V} {j : Nat} {c : V}, els[i]? = some x → x[j]? = some c → f c = some m → m ∈ els.flatten.filterMap f := fun h k l => List.mem_filterMap.2 ⟨_, List.mem_flatten.2 ⟨_, List.mem_of_getElem? h, List.mem_of_getElem? k⟩, l⟩
    cases i with
    | zero =>
      simp only [List.getElem?_cons_zero, Option.some.injEq] at h1
      subst h1
      cases i' with
      | zero =>
        simp only [List.getElem?_cons_zero, Option.some.injEq] at h3
        subst h3
        exact ⟨rfl, nodup_row n1 h2 h4 h5 h6⟩
      | succ i' =>
        simp only [List.getElem?_cons_succ] at h3
        exact absurd rfl (n3 m (inY h2 h5) m (inE h3 h4 h6))
    | succ i =>
      simp only [List.getElem?_cons_succ] at h1
      cases i' with
      | zero =>
        simp only [List.getElem?_cons_zero, Option.some.injEq] at h3
        subst h3
        exact absurd rfl (n3 m (inY h4 h6) m (inE h1 h2 h5))
      | succ i' =>
        simp only [List.getElem?_cons_succ] at h3
        obtain ⟨e1, e2⟩ := nodup_flat n2 h1 h2 h3 h4 h5 h6
        exact ⟨by rw [e1], e2⟩

theorem absCond_one {R : Rs} {c : V} (h : absCond R c) : oneV c = true := by
  unfold absCond at h
  split at h
  · rfl
  · exact h.elim
  · exact h

theorem zip_parts {α : Type} (l : List (Nat × α)) {n : Nat} (h : l.map (·.1) = List.range n) : l = (List.range' 0 n).zip (l.map (·.2)) := by
  rw [← List.range_eq_range', ← h]
  clear h
  induction l with
  | nil => rfl
  | cons x l ih => simp only [List.map_cons, List.zip_cons_cons]; rw [← ih]

theorem ok_buildSlice {t : TypeId} {i ie : TI} (hT : TIok P t i) (he : i.elem ≠ 0) (hE : TIok P i.elem ie) (hz : ie.zero.length = ie.sz) (hsz : ie.sz ≠ 0) (hC : Sat C) (hb : ¬ C.A b) {len : Nat} {parts : Array (Nat × Operand)} {ρ : Operand → Value} {L : Operand → V}
    (hL : ∀ p, p ∈ parts.toList → VR C (ρ p.2) (L p.2)) {out : Out} (h : buildSliceV i ie C.R b len (parts.toList.map fun p => (p.1, L p.2)) = some out) (hc : out.c) :
    OpOK P C (runV (Instr.buildSlice t len (parts.map fun (i, x) => (i, ρ x)))) b out := by
  simp only [buildSliceV, Option.some.injEq] at h
  subst h
  obtain ⟨⟨c1, c2, c3⟩, c4, c5⟩ := hc
  generalize hels0 : cellsOf ((parts.toList.map fun p => (p.1, L p.2)).map (·.2)) = els at c3 c4 c5 ⊢
  have hels : parts.toList.map (fun p => (L p.2).cells) = els := by
    rw [← hels0]; simp [cellsOf, Function.comp_def]
  simp only [List.map_map, Function.comp_def] at c1
  have hlen : parts.toList.length = len := by
    have := congrArg List.length c1
    simpa using this
  have hcond : ∀ (i : Nat) x (j : Nat) c, els[i]? = some x → x[j]? = some c → absCond C.R c := fun i x j c h1 h2 =>
    andL_mem c4 _ (List.mem_map.2 ⟨c, List.mem_flatten.2 ⟨x, List.mem_of_getElem? h1, List.mem_of_getElem? h2⟩, rfl⟩)
  have hparts : (parts.map fun (i, x) => (i, ρ x)).toList = (List.range' 0 len).zip (parts.toList.map fun p => ρ p.2) := by
    have := zip_parts (parts.toList.map fun p => (p.1, ρ p.2)) (n := len) (by simpa [Function.comp_def] using c1)
    simp only [List.map_map, Function.comp_def] at this
    rw [← this]
    simp
  have hval : ∀ (i : Nat) x, els[i]? = some x → ∃ p, parts.toList[i]? = some p ∧ x = (L p.2).cells ∧ VR C (ρ p.2) (L p.2) ∧ (L p.2).cells.all oneV = true := by
    intro i x hi
    rw [← hels, List.getElem?_map, Option.map_eq_some_iff] at hi
    obtain ⟨p, hp, rfl⟩ := hi
    refine ⟨p, hp, rfl, hL p (List.mem_of_getElem? hp), List.all_eq_true.2 (fun c hc => ?_)⟩
    obtain ⟨j, hj⟩ := List.getElem?_of_mem hc
    exact absCond_one (hcond i _ j c (by rw [← hels, List.getElem?_map, hp]; rfl) hj)
  have hvs : ∀ v, v ∈ parts.toList.map (fun p => ρ p.2) → v.cells.size = ie.sz := by
    intro v hv
    obtain ⟨i, hi⟩ := List.getElem?_of_mem hv
    rw [List.getElem?_map, Option.map_eq_some_iff] at hi
    obtain ⟨p, hp, rfl⟩ := hi
    obtain ⟨p', hp', e1, e2, e3⟩ := hval i (L p.2).cells (by rw [← hels, List.getElem?_map, hp]; rfl)
    obtain rfl : p = p' := Option.some.inj (hp.symm.trans hp')
    rw [(e2.cells e3).1]
    exact c3 _ (by rw [← hels]; exact List.mem_map.2 ⟨p, List.mem_of_getElem? hp, rfl⟩)
  obtain ⟨z, hzr, hzc⟩ := run_zero hE (fun e => by rw [e] at hz; exact hsz hz.symm) C.w
  have hinit : ∀ (A : Array Value), A.size = len * ie.sz → ∃ A', Instr.fill (fun i => some (i * ie.sz, ie.sz)) A (parts.map fun (i, x) => (i, ρ x)).toList = some A' ∧ A'.size = len * ie.sz ∧
      (∀ (i : Nat) v (j : Nat) c, (parts.toList.map fun p => ρ p.2)[i]? = some v → v.cells[j]? = some c → A'[i * ie.sz + j]? = some c) := by
    intro A hA
    obtain ⟨A', h1, h2, h3, _⟩ := fill_slice ie.sz (parts.toList.map fun p => ρ p.2) 0 A (by rw [hA]; simp [hlen]) hvs
    refine ⟨A', ?_, h2.trans hA, fun i v j c hi hj => by simpa using h3 i v j c hi hj⟩
    rw [hparts, ← h1, List.length_map, hlen]
  obtain ⟨A', h1, h2, h3⟩ := hinit ((Array.range (len * ie.sz)).map (fun k => (if len * ie.sz = 0 then (#[] : Array Value) else z.cells)[k % (if len * ie.sz = 0 then (#[] : Array Value) else z.cells).size]!)) (by simp)
  have hrun : (Instr.buildSlice t len (parts.map fun (i, x) => (i, ρ x))).run P C.w = .ok (.slice (some ⟨C.w.heap.size, 0, none⟩) len len) (C.w.alloc (.cells A' i.elem)) := by
    simp only [Instr.buildSlice, Sem.run_bind, run_underlying (hT.elem he), Result.andThen_ok, run_sizeOf hE]
    rw [if_neg (by omega)]
    by_cases h0 : len * ie.sz = 0
    · simp only [h0, if_true, Sem.run_bind, Sem.run_pure, Result.andThen_ok] at h1 ⊢
      rw [h1]
      simp only [newRow, Sem.run_bind, run_newObj, Result.andThen_ok, Sem.run_pure]
      rfl
    · simp only [h0, if_false, Sem.run_bind, Sem.run_pure, Result.andThen_ok, hzr] at h1 ⊢
      rw [h1]
      simp only [newRow, Sem.run_bind, run_newObj, Result.andThen_ok, Sem.run_pure]
      rfl
  have hsrcv : ∀ (i : Nat) x (j : Nat) c, els[i]? = some x → x[j]? = some c → ∃ v, A'[i * ie.sz + j]? = some v ∧ v.oneCell' = true ∧ VR C v c := by
    intro i x j c hi hj
    obtain ⟨p, hp, rfl, hv, ho⟩ := hval i x hi
    obtain ⟨k1, k2⟩ := hv.cells ho
    have hlt := (List.getElem?_eq_some_iff.1 hj).1
    have hu : (ρ p.2).cells[j]? = some ((ρ p.2).cells[j]'(by omega)) := Array.getElem?_eq_getElem _
    exact ⟨_, h3 i _ j _ (by rw [List.getElem?_map, hp]; rfl) hu, (k2 j _ c hu hj).2, (k2 j _ c hu hj).1⟩
  have unmap : ∀ (i : Nat) x' (j : Nat) c', (els.map (·.map (absCell C.R)))[i]? = some x' → x'[j]? = some c' → ∃ x c, els[i]? = some x ∧ x[j]? = some c ∧ c' = absCell C.R c := by
    intro i x' j c' hi hj
    rw [List.getElem?_map, Option.map_eq_some_iff] at hi
    obtain ⟨x, hx, rfl⟩ := hi
    rw [List.getElem?_map, Option.map_eq_some_iff] at hj
    obtain ⟨c, hc, rfl⟩ := hj
    exact ⟨x, c, hx, hc, rfl⟩
  have srcAt : ∀ (i : Nat) x (j : Nat) m k, els[i]? = some x → x[j]? = some (.ref (m, none) 0 k) → (match (els.getD i []).getD j .any with | .ref p _ _ => p | _ => ((0, none) : Pl)) = (m, none) := by
    intro i x j m k h1 h2
    rw [getD_of_get h1, getD_of_get h2]
  have rowinv : ∀ (i : Nat) x' (j : Nat) s zs, (els.map (·.map (absCell C.R)))[i]? = some x' → x'[j]? = some (.row s zs) → ∃ x m k q, els[i]? = some x ∧ x[j]? = some (.ref (m, none) 0 k) ∧ C.R m = some q ∧ q.sz = s ∧ q.els = zs ∧ k = q.els.length ∧ q.els.all (·.all notRow) = true := by
    intro i x' j s zs h1 h2
    obtain ⟨x, c, k1, k2, k3⟩ := unmap i x' j _ h1 h2
    obtain ⟨v, _, _, hv⟩ := hsrcv i x j c k1 k2
    obtain ⟨m, k, q, rfl, k4, k5, k6⟩ := absCell_row (fun s ys e => by subst e; exact hv.not_row) k3.symm
    have := hcond i x j _ k1 k2
    simp only [absCond, k4] at this
    exact ⟨x, m, k, q, k1, k2, k4, k5, k6, this.1, this.2⟩
  have nodup : ∀ (i : Nat) x (j : Nat) m k (i' : Nat) x' (j' : Nat) k', els[i]? = some x → x[j]? = some (.ref (m, none) 0 k) → els[i']? = some x' → x'[j']? = some (.ref (m, none) 0 k') → i = i' ∧ j = j' := by
    intro i x j m k i' x' j' k' h1 h2 h3 h4
    exact nodup_flat c5 h1 h2 h3 h4 rfl rfl
  have S := root_sat (D := els.flatten.filterMap absName) (ty := i.elem) (src := fun i j => match (els.getD i []).getD j .any with | .ref p _ _ => p | _ => (0, none)) (g0 := C.w.heap.size) (els := els.map (·.map (absCell C.R))) (sz := ie.sz) (cs := A') hC hb (same_alloc C.w (.cells A' i.elem))
    (fun k hk _ => heap_alloc_old C.w _ k hk) (heap_alloc_new C.w _) (by rw [h2, List.length_map, ← hels, List.length_map, hlen]; exact Nat.le_refl _)
    (fun x hx => by
      obtain ⟨y, hy, rfl⟩ := List.mem_map.1 hx
      rw [List.length_map]; exact c3 y hy) (.inl (Nat.le_refl _))
    (fun i' x' j c' hi hj => by
      obtain ⟨x, c, k1, k2, rfl⟩ := unmap i' x' j c' hi hj
      obtain ⟨v, n1, n2, n3⟩ := hsrcv i' x j c k1 k2
      refine ⟨v, n1, n2, ?_⟩
      by_cases hr : ∃ s zs, absCell C.R c = .row s zs
      · obtain ⟨s, zs, hr⟩ := hr
        right
        obtain ⟨x2, m, k, q, q1, q2, q3, q4, q5, q6, q7⟩ := rowinv i' x' j s zs hi (by rw [hj, hr])
        obtain rfl : x = x2 := Option.some.inj (k1.symm.trans q1)
        obtain rfl : c = _ := Option.some.inj (k2.symm.trans q2)
        have hs := srcAt i' x j m k k1 k2
        refine ⟨s, zs, hr, ?_, ?_, ?_, ?_, ?_⟩
        · rw [hs]
          exact List.mem_filterMap.2 ⟨_, List.mem_flatten.2 ⟨x, List.mem_of_getElem? k1, List.mem_of_getElem? k2⟩, rfl⟩
        · rw [hs, act_of q3, q4, q5]
        · rw [← q5]; exact norow_of q7
        · rw [hs, ← q5, ← q6]; exact n3
        · intro g hg
          rw [hs] at hg
          have hlt := hC.owned_lt ⟨(m, none), by unfold Act?; rw [act_of q3]; rfl, hg⟩
          exact ⟨by omega, heap_alloc_old C.w _ g hlt⟩
      · left
        have : absCell C.R c = c ∨ absCell C.R c = .any := by
          unfold absCell
          split
          · rename_i m k
            cases e : C.R m with
            | none => exact .inr rfl
            | some q => exact absurd ⟨q.sz, q.els, by simp [absCell, e]⟩ hr
          · exact .inl rfl
        rcases this with e | e
        · rw [e]; exact n3
        · rw [e]; exact .fro (.any v))
    (fun i1 x1 j1 s1 zs1 i2 x2 j2 s2 zs2 h1 h2 h3 h4 e => by
      obtain ⟨y1, m1, k1, q1, a1, a2, _⟩ := rowinv i1 x1 j1 s1 zs1 h1 h2
      obtain ⟨y2, m2, k2, q2, b1, b2, _⟩ := rowinv i2 x2 j2 s2 zs2 h3 h4
      rw [srcAt i1 y1 j1 m1 k1 a1 a2, srcAt i2 y2 j2 m2 k2 b1 b2] at e
      simp only [Prod.mk.injEq, and_true] at e
      subst e
      exact nodup i1 y1 j1 m1 k1 i2 y2 j2 k2 a1 a2 b1 b2)
  refine ⟨_, .slice (some ⟨C.w.heap.size, 0, none⟩) len len, _, run_runV hrun, .inl rfl, S.1, S.2.1, S.2.2, by rw [applyF_wrOf]; rfl, .ref (.inr rfl) (fun sz xs hp => ?_), fun _ h => h⟩
  have hRb : (mkCx C (C.w.alloc (.cells A' i.elem)) (els.flatten.filterMap absName) b ⟨i.elem, ie.sz, els.map (·.map (absCell C.R))⟩ (plOf C C.w.heap.size (fun i j => match (els.getD i []).getD j .any with | .ref p _ _ => p | _ => (0, none)))).R b = some ⟨i.elem, ie.sz, els.map (·.map (absCell C.R))⟩ := by simp [mkCx]
  rw [act_of hRb] at hp
  simp only [Option.some.injEq, Prod.mk.injEq] at hp
  obtain ⟨rfl, rfl⟩ := hp
  have hel : els.length = len := by rw [← hels, List.length_map, hlen]
  have hlm : len ≤ maxLen := by
    have : len * 1 ≤ len * ie.sz := Nat.mul_le_mul_left _ (by omega)
    simp only [maxLen]; omega
  refine ⟨by rw [List.length_map, hel]; omega, Nat.le_refl _, hlm, fun h => by simp [mkCx, plOf] at h, fun g hg => ?_⟩
  have : C.w.heap.size = g := by simpa [mkCx, plOf] using hg
  subst this
  exact ⟨fun _ => by simp, by simp, A', i.elem, heap_alloc_new C.w _, by rw [Nat.zero_add, h2]⟩
end Go.Ev
namespace Go.Ev
open Go
variable {P : Program} {C : Cx} {b : Nat}

def putParts (fs : List (Nat × Nat × Bool)) : List V → List (Nat × V) → Option (Prop × List V)
  | cs, [] => some (True, cs)
  | cs, (i, x) :: r =>
    match fs[i]? with
    | some (off, n, _) => (putParts fs (putCells cs off x.cells) r).map fun (p, ds) => ((x.cells.length = n ∧ x.cells.all oneV = true ∧ off + n ≤ cs.length) ∧ p, ds)
    | none => none

def buildV (i : TI) (ps : List (Nat × V)) : Option Out :=
  (putParts i.fs (i.zero.map .val) ps).map fun (p, ds) => ⟨p ∧ i.zero.length = i.sz ∧ i.sz ≠ 0, .agg ds, []⟩

theorem fill_sim {fs : List (Nat × Nat × Bool)} {place : Nat → Option (Nat × Nat)} (hpl : ∀ i off n g, fs[i]? = some (off, n, g) → place i = some (off, n)) {ρ : Operand → Value} {L : Operand → V} :
    ∀ (l : List (Nat × Operand)) (A : Array Value) (cs : List V) (p : Prop) (ds : List V), A.size = cs.length → (∀ (k : Nat) u c, A[k]? = some u → cs[k]? = some c → VR C u c) → (∀ q, q ∈ l → VR C (ρ q.2) (L q.2)) →
      putParts fs cs (l.map fun q => (q.1, L q.2)) = some (p, ds) → p → ∃ A', Instr.fill place A (l.map fun q => (q.1, ρ q.2)) = some A' ∧ A'.size = ds.length ∧ ∀ (k : Nat) u c, A'[k]? = some u → ds[k]? = some c → VR C u c
  | [], A, cs, p, ds, h1, h2, _, h4, _ => by
    simp only [List.map_nil, putParts, Option.some.injEq, Prod.mk.injEq] at h4
    obtain ⟨_, rfl⟩ := h4
    exact ⟨A, rfl, h1, h2⟩
  | (i, o) :: l, A, cs, p, ds, h1, h2, h3, h4, hp => by
    simp only [List.map_cons, putParts] at h4
    cases hf : fs[i]? with
    | none => simp [hf] at h4
    | some q =>
      obtain ⟨off, n, g⟩ := q
      simp only [hf, Option.map_eq_some_iff] at h4
      obtain ⟨⟨p', ds'⟩, h5, h6⟩ := h4
      simp only [Prod.mk.injEq] at h6
      obtain ⟨rfl, rfl⟩ := h6
      obtain ⟨⟨k1, k2, k3⟩, hp'⟩ := hp
      have hv := h3 (i, o) (by simp)
      have k1 : (L o).cells.length = n := k1
      have hv : VR C (ρ o) (L o) := hv
      obtain ⟨m1, m2⟩ := hv.cells k2
      obtain ⟨f1, f2⟩ := fill_cells (ρ o) off A
      obtain ⟨A', r1, r2, r3⟩ := fill_sim hpl l _ (putCells cs off (L o).cells) p' ds' (by rw [f1, putCells_length]; exact h1) (fun k u c hu hc => by
        rw [f2] at hu
        rw [putCells_get] at hc
        by_cases e : off ≤ k ∧ k < off + (ρ o).cells.size ∧ k < A.size
        · rw [if_pos e] at hu
          rw [if_pos (by omega)] at hc
          exact (m2 _ _ _ hu hc).1
        · rw [if_neg e] at hu
          rw [if_neg (by omega)] at hc
          exact h2 k u c hu hc) (fun q hq => h3 q (by simp [hq])) h5 hp'
      refine ⟨A', ?_, r2, r3⟩
      simp only [List.map_cons, Instr.fill, hpl _ _ _ _ hf]
      rw [if_neg (by simp; omega)]
      exact r1

theorem run_mapM {α β : Type} (f : α → Sem β) (g : α → β) (w : World) : ∀ (l : List α), (∀ x, x ∈ l → (f x).run P w = .ok (g x) w) → (l.mapM f).run P w = .ok (l.map g) w
  | [], _ => by simp [List.mapM_nil]
  | x :: l, h => by
    rw [List.mapM_cons]
    simp only [Sem.run_bind, h x (by simp), Result.andThen_ok, run_mapM f g w l (fun y hy => h y (by simp [hy])), Sem.run_pure, List.map_cons]

theorem ok_build {t : TypeId} {i : TI} (hT : TIok P t i) (hf : i.fs ≠ []) (hC : Sat C) {parts : Array (Nat × Operand)} {ρ : Operand → Value} {L : Operand → V}
    (hL : ∀ p, p ∈ parts.toList → VR C (ρ p.2) (L p.2)) {out : Out} (h : buildV i (parts.toList.map fun p => (p.1, L p.2)) = some out) (hc : out.c) :
    OpOK P C (runV (Instr.build t (parts.map fun (i, x) => (i, ρ x)))) b out := by
  simp only [buildV, Option.map_eq_some_iff] at h
  obtain ⟨⟨p, ds⟩, h1, rfl⟩ := h
  obtain ⟨hp, hz, hn⟩ := hc
  obtain ⟨fields, hu, hfs⟩ := hT.fs hf
  obtain ⟨z, hzr, hzc⟩ := run_zero hT (fun e => by rw [e] at hz; exact hn hz.symm) C.w
  have hplace : (fields.mapM (m := Sem) fun f => do pure (f.offset, ← sizeOf f.type)).run P C.w = .ok (fields.map fun f => (f.offset, P.cellsOf f.type)) C.w := by
    rw [Array.mapM_eq_mapM_toList]
    have := run_mapM (P := P) (fun f : Field => do pure (f.offset, ← sizeOf f.type)) (fun f => (f.offset, P.cellsOf f.type)) C.w fields.toList (fun f hm => by
      obtain ⟨k, hk⟩ := List.getElem?_of_mem hm
      have h3 := congrArg (·[k]?) hfs
      simp only [List.getElem?_map, hk, Option.map_some] at h3
      cases e : i.fs[k]? with
      | none => rw [e] at h3; cases h3
      | some q =>
        rw [e] at h3
        simp only [Option.map_some, Option.some.injEq, Prod.mk.injEq] at h3
        cases e2 : P.info? f.type with
        | none => simp [e2] at h3
        | some inf => simp [sizeOf, typeInfo, e2, Program.cellsOf])
    simp only [Sem.run_map, this, Result.andThen_ok]
    congr 1
    apply Array.ext'
    simp
  obtain ⟨A', r1, r2, r3⟩ := fill_sim (C := C) (fs := i.fs) (place := fun k => (fields.map fun f => (f.offset, P.cellsOf f.type))[k]?) (fun k off n g hk => by
      obtain ⟨fields', fl, q1, q2, q3, q4, q5⟩ := run_field hT hk
      rw [hu] at q1
      simp only [Option.some.injEq, TypeDesc.struct.injEq] at q1
      subst q1
      simp only [Array.getElem?_map, q2, Option.map_some, q3, Program.cellsOf, q4, Option.getD_some]) (ρ := ρ) (L := L) parts.toList z.cells (i.zero.map .val) p ds (by rw [hzc]; simp) (fun k u c hu' hc' => by
        rw [hzc, List.getElem?_toArray] at hu'
        simp only [List.getElem?_map, hu', Option.map_some, Option.some.injEq] at hc'
        subst hc'
        exact .fro (.val u)) hL h1 hp
  refine OpOK.pure hC (run_runV (v := .agg A') ?_) (.agg r2 r3)
  simp only [Instr.build, Sem.run_bind, hzr, Result.andThen_ok, run_underlying hu, hplace]
  have : (parts.map fun (i, x) => (i, ρ x)).toList = parts.toList.map fun q => (q.1, ρ q.2) := by simp
  rw [this, r1]
  rfl

def makeV (i ie : TI) (b : Nat) (l c : V) : Option Out :=
  match l, c with
  | .val (.int _ n), .val (.int _ m) => some ⟨(n = m ∧ 0 ≤ n ∧ n * ie.bytes ≤ 140737488355328 ∧ n ≤ 140737488355328) ∧ ie.zero.length = ie.sz ∧ ie.zero.all (·.oneCell') = true, .ref (b, none) 0 n.toNat, [(b, some ⟨i.elem, ie.sz, List.replicate n.toNat (ie.zero.map .val)⟩)]⟩
  | _, _ => none

theorem ok_make {t : TypeId} {i ie : TI} (hT : TIok P t i) (he : i.elem ≠ 0) (hE : TIok P i.elem ie) (hsz : ie.sz ≠ 0) (hC : Sat C) (hb : ¬ C.A b) {vl vc : Value} {l c : V} (hl : VR C vl l) (hc : VR C vc c) {out : Out} (h : makeV i ie b l c = some out) (hcc : out.c) :
    OpOK P C (runV (Instr.makeSlice t vl vc)) b out := by
  unfold makeV at h
  split at h
  case h_2 => cases h
  rename_i k n k' m
  obtain rfl := hl.val_inv
  obtain rfl := hc.val_inv
  simp only [Option.some.injEq] at h
  subst h
  obtain ⟨⟨rfl, h0, h1, h2⟩, hz, hone⟩ := hcc
  obtain ⟨z, hzr, hzc⟩ := run_zero hE (fun e => by rw [e] at hz; exact hsz hz.symm) C.w
  obtain ⟨inf, hi, his, hib⟩ := info_of hE
  have hz' : inf.zero = some z := by
    have h3 := hE.zero (fun e => by rw [e] at hz; exact hsz hz.symm)
    simp only [hi, Option.map_some, Option.some.injEq] at h3
    cases ez : inf.zero with
    | none => simp [ez] at h3
    | some z' =>
      have : (zeroValue i.elem).run P C.w = .ok z' C.w := by simp [zeroValue, typeInfo, hi, ez]
      rw [hzr] at this
      simp only [Result.ok.injEq, and_true] at this
      rw [this]
  have hr := run_make (P := P) C.w t i.elem inf z (hT.elem he) hi hz' k k' n n h0 (Int.le_refl _) (by rw [hib, Int.mul_comm]; omega) (by omega)
  rw [his] at hr
  have hzs : z.cells.size = ie.sz := by rw [hzc]; simpa using hz
  have hget : ∀ q, q < n.toNat * ie.sz → ∃ u, (madeCells z.cells (n.toNat * ie.sz))[q]? = some u ∧ i.elem = i.elem ∧ ie.zero[q % ie.sz]? = some u := by
    intro q hq
    have hlt : q % ie.sz < ie.zero.length := by rw [hz]; exact Nat.mod_lt _ (Nat.pos_of_ne_zero hsz)
    refine ⟨ie.zero[q % ie.sz], ?_, rfl, List.getElem?_eq_getElem hlt⟩
    simp only [madeCells, Array.getElem?_map, hzs]
    have : (Array.range (n.toNat * ie.sz))[q]? = some q := by simp [hq]
    rw [this, Option.map_some]
    congr 1
    simp [hzc, hlt]
  obtain ⟨C', h1', h2', h3', h4', h5', h6', h7', h8'⟩ := new_root (els := List.replicate n.toNat (ie.zero.map .val)) (sz := ie.sz) (ty := i.elem) (cs := madeCells z.cells (n.toNat * ie.sz)) hC hb (same_alloc C.w (.cells (madeCells z.cells (n.toNat * ie.sz)) i.elem)) rfl
    (by rw [List.length_replicate, size_madeCells]; exact Nat.le_refl _) (fun x hx => by rw [(List.mem_replicate.1 hx).2]; simpa using hz)
    (fun a x j c' hi' hj => by
      have hlt := (List.getElem?_eq_some_iff.1 hi').1
      rw [List.length_replicate] at hlt
      have hx := List.mem_replicate.1 (List.mem_of_getElem? hi')
      rw [hx.2] at hj
      have hj' := (List.getElem?_eq_some_iff.1 hj).1
      rw [List.length_map, hz] at hj'
      have := fit (k := a) (n := n.toNat) (sz := ie.sz) (j := j) (m := 1) hlt (by omega)
      obtain ⟨u, k1, _, k2⟩ := hget (a * ie.sz + j) (by omega)
      have e : (a * ie.sz + j) % ie.sz = j := by rw [Nat.mul_comm, Nat.mul_add_mod, Nat.mod_eq_of_lt hj']
      rw [e] at k2
      rw [List.getElem?_map, k2] at hj
      simp only [Option.map_some, Option.some.injEq] at hj
      subst hj
      exact ⟨u, k1, List.all_eq_true.1 hone u (List.mem_of_getElem? k2), .fro (.val u)⟩)
  refine ⟨_, _, C', run_runV (by rw [h1']; exact hr), .inl rfl, h2', h3', h4', h5', .ref h7' (fun sz xs hp => ?_), h8'⟩
  have hRb : C'.R b = some ⟨i.elem, ie.sz, List.replicate n.toNat (ie.zero.map .val)⟩ := by rw [h5']; simp [applyF]
  rw [act_of hRb] at hp
  simp only [Option.some.injEq, Prod.mk.injEq] at hp
  obtain ⟨rfl, rfl⟩ := hp
  refine ⟨by simp, Nat.le_refl _, by simp only [maxLen]; omega, (fun h => by rw [h6'] at h; cases h), fun g hg => ?_⟩
  rw [h6'] at hg
  obtain rfl := Option.some.inj hg
  exact ⟨fun _ => by simp, by simp, _, i.elem, by rw [h1']; exact heap_alloc_new C.w _, by rw [Nat.zero_add, size_madeCells]⟩
end Go.Ev
namespace Go.Ev
open Go
variable {P : Program} {C : Cx} {b : Nat}

def copyL (xs ys : List (List V)) (off n : Nat) : List (List V) := xs.take off ++ ys.take n ++ xs.drop (off + n)

def copyV (ie : TI) (R : Rs) (d x : V) : Option Out :=
  match elsOf R x with
  | none => none
  | some (sz, ys) =>
    match d with
    | .ref p off len =>
      match R p.1, getP R p with
      | some r, some (sz', xs) => some ⟨(ie.sz = 1 ∧ sz = 1 ∧ sz' = 1) ∧ ys.all (·.all notRow) = true, .val (goInt (min len ys.length : Nat)), [(p.1, some (setP r p.2 (copyL xs ys off (min len ys.length))))]⟩
      | _, _ => none
    | _ => none

theorem setP_same {R : Rs} {p : Pl} {r : Root} {sz : Nat} {xs : List (List V)} (hr : R p.1 = some r) (h : getP R p = some (sz, xs)) : setP r p.2 xs = r := by
  obtain ⟨n, q⟩ := p
  cases q with
  | none =>
    rw [act_of hr] at h
    simp only [Option.some.injEq, Prod.mk.injEq] at h
    obtain ⟨rfl, rfl⟩ := h
    rfl
  | some ij =>
    obtain ⟨i, j⟩ := ij
    obtain ⟨x, h1, h2⟩ := getP_row hr h
    simp only [setP, getD_of_get h1, getD_of_get h2]
    obtain ⟨ty, s, els⟩ := r
    simp only [Root.mk.injEq, true_and]
    simp only at h1
    have e1 : x.set j (.row sz xs) = x := List.ext_getElem? fun k => by
      rw [List.getElem?_set]
      split
      · rename_i e; subst e
        rw [h2, if_pos (List.getElem?_eq_some_iff.1 h2).1]
      · rfl
    rw [e1]
    exact List.ext_getElem? fun k => by
      rw [List.getElem?_set]
      split
      · rename_i e; subst e
        rw [h1, if_pos (List.getElem?_eq_some_iff.1 h1).1]
      · rfl

theorem copyL_get {xs ys : List (List V)} {off n : Nat} (h1 : off + n ≤ xs.length) (h2 : n ≤ ys.length) (i : Nat) : (copyL xs ys off n)[i]? = if off ≤ i ∧ i < off + n then ys[i - off]? else xs[i]? := by
  unfold copyL
  by_cases c1 : i < off
  · rw [List.append_assoc, List.getElem?_append_left (by rw [List.length_take]; omega), List.getElem?_take, if_pos c1, if_neg (by omega)]
  · by_cases c2 : i < off + n
    · rw [if_pos (by omega), List.getElem?_append_left (by simp only [List.length_append, List.length_take]; omega), List.getElem?_append_right (by rw [List.length_take]; omega), List.getElem?_take, List.length_take, Nat.min_eq_left (by omega), if_pos (by omega)]
    · rw [if_neg (by omega), List.getElem?_append_right (by simp only [List.length_append, List.length_take]; omega), List.getElem?_drop]
      congr 1
      simp only [List.length_append, List.length_take]; omega

theorem copyL_length {xs ys : List (List V)} {off n : Nat} (h1 : off + n ≤ xs.length) (h2 : n ≤ ys.length) : (copyL xs ys off n).length = xs.length := by
  simp only [copyL, List.length_append, List.length_take, List.length_drop]; omega

theorem ok_copy {t u ty : TypeId} {i ie : TI} (hT : TIok P t i) (he : i.elem ≠ 0) (hE : TIok P i.elem ie) (hC : Sat C) {v vx : Value} {d x : V} (hv : VR C v d) (hx : VR C vx x) {out : Out} (h : copyV ie C.R d x = some out) (hc : out.c) :
    OpOK P C (runV (Builtin.copy_ #[t, u] ty #[v, vx])) b out := by
  unfold copyV at h
  cases h1 : elsOf C.R x with
  | none => simp [h1] at h
  | some q =>
    obtain ⟨sz, ys⟩ := q
    simp only [h1] at h
    cases d with
    | ref p off len =>
      simp only at h
      cases hr : C.R p.1 with
      | none => simp [hr] at h
      | some r =>
        cases hg : getP C.R p with
        | none => simp [hr, hg] at h
        | some q =>
          obtain ⟨sz', xs⟩ := q
          simp only [hr, hg, Option.some.injEq] at h
          subst h
          obtain ⟨⟨s1, rfl, rfl⟩, hrow⟩ := hc
          obtain ⟨a, cap, rfl, hA, hsl⟩ := hv.ref_inv
          obtain ⟨o1, o2, o3, o4, o5⟩ := hsl _ _ hg
          obtain ⟨a', cap', f, rfl, c1, c2, c3, c4, c5⟩ := src_rep hC hx h1
          have hu := hT.elem he
          have hsz : (P.info? i.elem).map (·.size) = some 1 := by
            obtain ⟨x, e1, e2, _⟩ := info_of hE
            rw [e1, ← s1, ← e2]; rfl
          generalize hn : min len ys.length = n
          rcases Nat.eq_zero_or_pos n with h0 | hpos
          · have hl : copyL xs ys off n = xs := by subst h0; simp [copyL]
            rw [hl, setP_same hr hg]
            refine ⟨_, _, C, run_runV (v := goInt n) ?_, .inl rfl, hC, .refl, .refl C, ?_, .fro (.val _), fun _ h => .inl h⟩
            · rw [run_copy_none C.w t u ty i.elem a a' len cap ys.length cap' hu hsz (by show min ys.length len = 0; rw [Nat.min_comm]; omega), h0]; rfl
            · simp only [applyF]
              funext m
              by_cases e : m = p.1
              · rw [if_pos e, e, hr]
              · rw [if_neg e]
          · cases hio : C.io p with
            | none => have := (o4 hio).2; omega
            | some g =>
              obtain ⟨g1, g2, cs, ty', g3, g4⟩ := o5 g hio
              have ha := g1 (.inl (by omega))
              subst ha
              obtain ⟨ad, rfl, hcell⟩ := c4 (by omega)
              obtain ⟨k1, k2, k3⟩ := hC.pl p 1 xs hg
              obtain ⟨cs', ty'', m1, m2, m3, m4⟩ := k3 g hio
              rw [g3] at m1
              simp only [Option.some.injEq, Obj.cells.injEq] at m1
              obtain ⟨rfl, rfl, _⟩ := m1
              have hlen : ((List.range n).map fun i => f i 0).length = n := by simp
              have hone : ∀ y ∈ ys, ∃ c, y = [c] := fun y hy => by
                have := c3 y hy
                match y, this with
                | [c], _ => exact ⟨c, rfl⟩
              have cell1 : ∀ k, k < n → ∃ c, ys[k]? = some [c] ∧ (f k 0).oneCell' = true ∧ VR C (f k 0) c ∧ notRow c = true := by
                intro k hk
                have e : ys[k]? = some (ys[k]'(by omega)) := List.getElem?_eq_getElem _
                obtain ⟨c, hcc⟩ := hone _ (List.mem_of_getElem? e)
                rw [hcc] at e
                obtain ⟨q1, q2⟩ := c5 k [c] 0 c e rfl
                have hnr := List.all_eq_true.1 (List.all_eq_true.1 hrow [c] (List.mem_of_getElem? e)) c (by simp)
                refine ⟨c, e, q1, ?_, hnr⟩
                rcases q2 with q2 | ⟨p', o', l', _, q2⟩
                · exact q2
                · cases c <;> first | exact q2 | simp [notRow] at hnr
              have hrun := run_copy_row (P := P) (ty := ty) C.w t u i.elem g (off * 1) len cap ad ys.length cap' cs ty' ((List.range n).map fun i => f i 0) hu hsz g3 (by rw [hlen]; show n = min ys.length len; rw [Nat.min_comm]; exact hn.symm) (fun j v hj => by
                rw [List.getElem?_map, Option.map_eq_some_iff] at hj
                obtain ⟨k, hk, rfl⟩ := hj
                have hjn := (List.getElem?_eq_some_iff.1 hk).1
                rw [List.length_range] at hjn
                rw [List.getElem?_range hjn] at hk
                cases hk
                have := hcell j 0 (by omega) (by omega)
                simpa using this) (by rw [hlen]; omega) (fun v hv => by
                obtain ⟨k, hk, rfl⟩ := List.mem_map.1 hv
                obtain ⟨_, _, h3, _⟩ := cell1 k (List.mem_range.1 hk)
                exact h3)
              rw [hlen] at hrun
              generalize hw' : C.w.setRow g (cs.toList.take (off * 1) ++ ((List.range n).map fun i => f i 0) ++ cs.toList.drop (off * 1 + n)).toArray = w' at hrun
              have hsame : Same C.w w' := by subst hw'; exact ⟨rfl, rfl, rfl, by simp [World.setRow]⟩
              have hcell' : ∀ q, ((cs.toList.take (off * 1) ++ ((List.range n).map fun i => f i 0) ++ cs.toList.drop (off * 1 + n)).toArray)[q]? = if off ≤ q ∧ q < off + n then some (f (q - off) 0) else cs[q]? := by
                intro q
                have hsp := splice_get cs.toList ((List.range n).map fun i => f i 0) (off * 1) q (by rw [hlen, Array.length_toList]; omega)
                rw [hlen] at hsp
                rw [List.getElem?_toArray, hsp]
                simp only [Nat.mul_one, Array.getElem?_toList]
                split
                · rw [List.getElem?_map, List.getElem?_range (by omega)]; rfl
                · rfl
              have hon : off + n ≤ xs.length := by omega
              have hnl : n ≤ ys.length := by omega
              have S := sat_store (ys := copyL xs ys off n) hC hsame hr hg (copyL_length hon hnl) (fun y hy => by
                  obtain ⟨k, hk⟩ := List.getElem?_of_mem hy
                  rw [copyL_get hon hnl] at hk
                  split at hk
                  · exact c3 y (List.mem_of_getElem? hk)
                  · exact k1 y (List.mem_of_getElem? hk))
                (fun a y b' s zs h1 h2 => by
                  rw [copyL_get hon hnl] at h1
                  split at h1
                  · have := List.all_eq_true.1 (List.all_eq_true.1 hrow y (List.mem_of_getElem? h1)) _ (List.mem_of_getElem? h2)
                    simp [notRow] at this
                  · exact ⟨y, h1, h2⟩) hio g3 (by rw [← hw']; exact setRow_heap _ _ _ _ _ _ g3) (by
                  simp only [List.size_toArray, List.length_append, List.length_take, List.length_drop, Array.length_toList, hlen]; omega)
                (fun q hq => by rw [← hw']; exact setRow_other _ _ _ _ hq)
                (fun a y m c h1 h2 => by
                  rw [hcell']
                  rw [copyL_get hon hnl] at h1
                  split at h1
                  · rename_i e
                    obtain ⟨c', q1, q2, q3, q4⟩ := cell1 (a - off) (by omega)
                    rw [h1] at q1
                    cases q1
                    have hm : m = 0 := by have := (List.getElem?_eq_some_iff.1 h2).1; simp at this; omega
                    subst hm
                    cases h2
                    rw [if_pos (by omega)]
                    exact ⟨_, by rw [show a * 1 + 0 - off = a - off by omega], q2, .inr q3⟩
                  · rename_i e
                    have hm := (List.getElem?_eq_some_iff.1 h2).1
                    rw [k1 y (List.mem_of_getElem? h1)] at hm
                    rw [if_neg (by omega)]
                    obtain ⟨v, n1, n2, n3⟩ := m4 a y m c h1 h2
                    exact ⟨v, n1, n2, .inl ⟨y, h1, h2, n1⟩⟩)
              exact ⟨_, _, _, run_runV hrun, .inl rfl, S.1, S.2.1, S.2.2, rfl, .fro (.val _), fun _ h => .inl h⟩
    | _ => simp at h

def maxV (mx : Bool) (x y : V) : Option Out :=
  match x, y with
  | .val (.int k a), .val (.int _ c) => some ⟨True, .val (.int k (if mx = true then (if c > a then c else a) else (if c < a then c else a))), []⟩
  | _, _ => none

theorem ok_max (hC : Sat C) {t : Array TypeId} {ty : TypeId} {vx vy : Value} {x y : V} (hx : VR C vx x) (hy : VR C vy y) {mx : Bool} {out : Out} (h : maxV mx x y = some out) :
    OpOK P C (runV (if mx = true then Builtin.max_ t ty #[vx, vy] else Builtin.min_ t ty #[vx, vy])) b out := by
  unfold maxV at h
  split at h
  · simp only [Option.some.injEq] at h
    subst h
    obtain rfl := hx.val_inv
    obtain rfl := hy.val_inv
    cases mx with
    | true => exact OpOK.pure hC (run_runV (by simp [Builtin.max_, Builtin.max2])) (.fro (.val _))
    | false => exact OpOK.pure hC (run_runV (by simp [Builtin.min_, Builtin.min2])) (.fro (.val _))
  · cases h

/-- A slice compared with nil. -/
def nilRes (op : BinOp) (y : V) (c : Prop) (t : Bool) : Option Out :=
  match op, y with
  | .eql, .val (.slice none 0 0) => some ⟨c, .val (.bool t), []⟩
  | _, _ => none
def eqNilV (R : Rs) (op : BinOp) (x y : V) : Option Out :=
  match x with
  | .val (.slice a _ _) => nilRes op y True a.isNone
  | .list _ xs => nilRes op y (0 < xs.length) false
  | .ref p _ len => nilRes op y (0 < len ∧ (getP R p).isSome = true) false
  | _ => none

theorem nilRes_some {op : BinOp} {y : V} {c : Prop} {t : Bool} {out : Out} (h : nilRes op y c t = some out) : op = .eql ∧ y = .val (.slice none 0 0) ∧ out = ⟨c, .val (.bool t), []⟩ := by
  unfold nilRes at h
  split at h
  · simp only [Option.some.injEq] at h
    exact ⟨rfl, rfl, h.symm⟩
  · cases h

theorem ok_eqNil (hC : Sat C) {t : TypeId} {i : TI} (hT : TIok P t i) (he : i.elem ≠ 0) {ox oy : Operand} {vx vy : Value} {x y : V} (hx : VR C vx x) (hy : VR C vy y) {op : BinOp} {out : Out} (h : eqNilV C.R op x y = some out) (hc : out.c) :
    OpOK P C (runV (do eqGuard op t ox oy vx vy; binOp op t vx vy)) b out := by
  have hu := hT.elem he
  have run : ∀ a l c, (do eqGuard .eql t ox oy (.slice a l c) (.slice none 0 0); binOp .eql t (.slice a l c) (.slice none 0 0) : Sem Value).run P C.w = .ok (.bool a.isNone) C.w := by
    intro a l c
    obtain ⟨d, hd⟩ : ∃ d, Op.maxDepth = d + 1 := ⟨9999, rfl⟩
    have h1 : (Op.equal t (.slice a l c) (.slice none 0 0)).run P C.w = .ok a.isNone C.w := by
      unfold Op.equal
      rw [hd]
      cases a <;> simp only [Op.equalIn, Sem.run_bind, run_underlying hu, Result.andThen_ok, Sem.run_pure, Option.isNone_none, Option.isNone_some]
    simp [eqGuard, binOp, h1]
  unfold eqNilV at h
  split at h
  case h_4 => cases h
  all_goals obtain ⟨rfl, rfl, rfl⟩ := nilRes_some h
  · obtain rfl := hx.val_inv
    obtain rfl := hy.val_inv
    exact OpOK.pure hC (run_runV (run _ _ _)) (.fro (.val _))
  · obtain rfl := hy.val_inv
    have hx := hx.list_inv
    cases hx with
    | list ad f hl hm hcap hs ha =>
      have hc : 0 < _ := hc
      rw [hl] at hc
      rw [ha hc]
      exact OpOK.pure hC (run_runV (run _ _ _)) (.fro (.val _))
  · obtain rfl := hy.val_inv
    rename_i p off len
    obtain ⟨a, cap, rfl, hA, hp⟩ := hx.ref_inv
    obtain ⟨c1, c2⟩ := hc
    obtain ⟨⟨sz, xs⟩, e⟩ := Option.isSome_iff_exists.1 c2
    obtain ⟨o1, o2, o3, o4, o5⟩ := hp _ _ e
    cases hio : C.io p with
    | none => have := (o4 hio).2; omega
    | some g =>
      rw [(o5 g hio).1 (.inl (by omega))]
      exact OpOK.pure hC (run_runV (run _ _ _)) (.fro (.val _))

/-- Nothing appended. -/
def append0V (R : Rs) (s x : V) : Option Out :=
  match s with
  | .ref p off len =>
    match x with
    | .val (.slice (some _) 0 _) => some ⟨(getP R p).isSome = true, .ref p off len, []⟩
    | _ => none
  | _ => none

theorem ok_append0 {t u ty : TypeId} {i ie j : TI} (hT : TIok P t i) (he : i.elem ≠ 0) (hU : TIok P u j) (hj : j.elem ≠ 0) (hE : TIok P i.elem ie) (hC : Sat C)
    {vs vx : Value} {s x : V} (hs : VR C vs s) (hx : VR C vx x) {out : Out} (h : append0V C.R s x = some out) (hc : out.c) : OpOK P C (runV (Builtin.append_ #[t, u] ty #[vs, vx])) b out := by
  unfold append0V at h
  split at h
  case h_2 => cases h
  split at h
  case h_2 => cases h
  simp only [Option.some.injEq] at h
  subst h
  obtain rfl := hx.val_inv
  have hs' := hs
  obtain ⟨a, cap, rfl, hA, hp⟩ := hs.ref_inv
  have hc : (getP C.R _).isSome = true := hc
  obtain ⟨⟨sz, xs⟩, e⟩ := Option.isSome_iff_exists.1 hc
  obtain ⟨o1, o2, o3, o4, o5⟩ := hp _ _ e
  rename_i p off len _ ad cx hcx
  refine OpOK.pure hC (run_runV (v := .slice a len cap) ?_) hs'
  have hl : (loadCells ad 0).run P C.w = .ok #[] C.w := by simpa using run_loadCells_list (P := P) C.w ad [] (by simp)
  cases a <;> simp [Builtin.append_, run_underlying (hT.elem he), run_underlying (hU.elem hj), run_sizeOf hE, Builtin.lenOf, Builtin.firstCells, hl, o2, storeCells]
end Go.Ev
namespace Go.Ev
open Go
variable {P : Program} {C : Cx} {b : Nat}

def capV (i : TI) (x : V) : Option Out :=
  match x with
  | .val (.slice none 0 0) => some ⟨i.elem ≠ 0, .val (goInt 0), []⟩
  | _ => none

theorem ok_cap {t ty : TypeId} {i : TI} (hT : TIok P t i) (hC : Sat C) {v : Value} {x : V} (hx : VR C v x) {out : Out} (h : capV i x = some out) (hc : out.c) : OpOK P C (runV (Builtin.cap_ #[t] ty #[v])) b out := by
  unfold capV at h
  split at h
  case h_2 => cases h
  simp only [Option.some.injEq] at h
  subst h
  obtain rfl := hx.val_inv
  exact OpOK.pure hC (run_runV (by simp [Builtin.cap_, run_underlying (hT.elem hc)])) (.fro (.val _))

/-- Nil cut: nil. -/
def sliceNV (x : V) (lo hi : Option V) : Option Out :=
  match x with
  | .val (.slice none 0 0) =>
    match bndV lo 0, bndV hi 0 with
    | some l, some h => some ⟨l = 0 ∧ h = 0, .val (.slice none 0 0), []⟩
    | _, _ => none
  | _ => none

theorem ok_sliceN {t : TypeId} {i ie : TI} (hT : TIok P t i) (he : i.elem ≠ 0) (hE : TIok P i.elem ie) (hC : Sat C) {v : Value} {x : V} (hx : VR C v x) {lo hi : Option V} {vl vh : Option Value}
    (hlo : ∀ x, lo = some x → ∃ v, vl = some v ∧ VR C v x) (hlo' : lo = none → vl = none) (hhi : ∀ x, hi = some x → ∃ v, vh = some v ∧ VR C v x) (hhi' : hi = none → vh = none)
    {out : Out} (h : sliceNV x lo hi = some out) (hc : out.c) : OpOK P C (runV (Instr.sliceAt t v vl vh none)) b out := by
  unfold sliceNV at h
  split at h
  case h_2 => cases h
  obtain rfl := hx.val_inv
  cases h1 : bndV lo 0 with
  | none => simp [h1] at h
  | some l =>
    cases h2 : bndV hi 0 with
    | none => simp [h1, h2] at h
    | some r =>
      simp only [h1, h2, Option.some.injEq] at h
      subst h
      obtain ⟨rfl, rfl⟩ := hc
      have hb := run_bounds (P := P) (len := 0) (cap := 0) hlo hlo' hhi hhi' h1 h2 (Int.le_refl _) (Int.le_refl _) (Int.le_refl _) (Nat.le_refl _) C.w
      refine OpOK.pure hC (run_runV (v := .slice none 0 0) ?_) (.fro (.val _))
      simp [Instr.sliceAt, run_underlying (hT.elem he), Instr.slice, hb, run_sizeOf hE]

/-- So many zeros appended to nil. -/
def growV (i ie j : TI) (b : Nat) (s x : V) : Option Out :=
  match s, x with
  | .val (.slice none 0 0), .val (.int _ n) => some ⟨(j.sz ≠ 0 ∧ j.ik = some .i64 ∧ 0 < n ∧ n * ie.bytes ≤ 140737488355328 ∧ n ≤ 140737488355328) ∧ ie.zero.length = ie.sz ∧ ie.zero.all (·.oneCell') = true, .ref (b, none) 0 n.toNat, [(b, some ⟨i.elem, ie.sz, List.replicate n.toNat (ie.zero.map .val)⟩)]⟩
  | _, _ => none

theorem get_zeros (z : Array Value) (n q : Nat) (h : q < n * z.size) : (Builtin.zeroCells z n)[q]? = z[q % z.size]? := by
  have hz : 0 < z.size := Nat.pos_of_ne_zero fun e => by rw [e] at h; omega
  have hlt := Nat.mod_lt q hz
  simp only [Builtin.zeroCells, Array.getElem?_map]
  have : (Array.range (n * z.size))[q]? = some q := by simp [h]
  rw [this, Option.map_some, Array.getElem?_eq_getElem hlt]
  congr 1
  exact getElem!_pos z _ hlt

theorem ok_grow {t u ty : TypeId} {i ie j : TI} (hT : TIok P t i) (he : i.elem ≠ 0) (hU : j.sz ≠ 0 → TIok P u j) (hE : TIok P i.elem ie) (hsz : ie.sz ≠ 0) (hC : Sat C) (hb : ¬ C.A b)
    {vs vx : Value} {s x : V} (hs : VR C vs s) (hx : VR C vx x) {out : Out} (h : growV i ie j b s x = some out) (hc : out.c) : OpOK P C (runV (Builtin.append_ #[t, u] ty #[vs, vx])) b out := by
  unfold growV at h
  split at h
  case h_2 => cases h
  rename_i k n
  obtain rfl := hs.val_inv
  obtain rfl := hx.val_inv
  simp only [Option.some.injEq] at h
  subst h
  obtain ⟨⟨hj, hik, h0, h1, h2⟩, hz, hone⟩ := hc
  have hU := (hU hj).ki _ hik
  obtain ⟨z, hzr, hzc⟩ := run_zero hE (fun e => by rw [e] at hz; exact hsz hz.symm) C.w
  obtain ⟨inf, hi, his, hib⟩ := info_of hE
  have hz' : inf.zero = some z := by
    have h3 := hE.zero (fun e => by rw [e] at hz; exact hsz hz.symm)
    simp only [hi, Option.map_some, Option.some.injEq] at h3
    cases ez : inf.zero with
    | none => simp [ez] at h3
    | some z' =>
      have : (zeroValue i.elem).run P C.w = .ok z' C.w := by simp [zeroValue, typeInfo, hi, ez]
      rw [hzr] at this
      simp only [Result.ok.injEq, and_true] at this
      rw [this]
  have hzs : z.cells.size = ie.sz := by rw [hzc]; simpa using hz
  obtain ⟨m, rfl⟩ : ∃ m : Nat, n = m := ⟨n.toNat, by omega⟩
  have h0' : 0 < m := by omega
  have hm : m ≤ 140737488355328 := by omega
  have hw : IntKind.i64.wrap (m : Int) = m := by rw [IntKind.wrap_i64]; omega
  have hby : m * inf.bytes ≤ 140737488355328 := by rw [hib]; omega
  have hge := grownCap_ge C.w m 0 i.elem
  have hcm := grownCap_le_maxLen C.w m 0 i.elem (by simp only [maxLen]; omega)
  have h48 := growslice_fits (need := m) (old := 0) (bytes := inf.bytes) h0' hby
  have h48' : ¬ (281474976710656 < Builtin.nextslicecap m 0 * inf.bytes) := by omega
  have hsz' : inf.size ≠ 0 := by rw [his]; exact hsz
  have hneg : ¬ ((m : Int) < 0) := by omega
  have hbig : ¬ ((281474976710656 : Int) < (m : Int) * (inf.bytes : Int)) := by
    omega
  have h63 : ¬ ((9223372036854775807 : Int) < (m : Int)) := by omega
  have hr : (Builtin.append_ #[t, u] ty #[.slice none 0 0, .int k m]).run P C.w = .ok (.slice (some ⟨C.w.heap.size, 0, none⟩) m (grownCap C.w m 0 i.elem))
      (C.w.drew.alloc (.cells (Builtin.zeroCells z.cells m ++ Builtin.zeroCells z.cells (grownCap C.w m 0 i.elem - m)) i.elem)) := by
    have hm0 : m ≠ 0 := by omega
    simp [Builtin.append_, run_underlying (hT.elem he), run_underlying hU, sizeOf, typeInfo, zeroValue, hi, hz', hw, hneg, hbig, h63, h48', Question.forced, asInt, asIntOf, newRow, grownCap, hm0, hsz', Builtin.firstCells]
    intro h; exact absurd h (Nat.mul_ne_zero hm0 hsz')
  have hget : ∀ q, q < m * ie.sz → ∃ u, (Builtin.zeroCells z.cells m ++ Builtin.zeroCells z.cells (grownCap C.w m 0 i.elem - m))[q]? = some u ∧ ie.zero[q % ie.sz]? = some u := by
    intro q hq
    have hlt : q % ie.sz < ie.zero.length := by rw [hz]; exact Nat.mod_lt _ (Nat.pos_of_ne_zero hsz)
    refine ⟨ie.zero[q % ie.sz], ?_, List.getElem?_eq_getElem hlt⟩
    rw [Array.getElem?_append_left (by simp [Builtin.zeroCells, hzs, hq]), get_zeros _ _ _ (by rw [hzs]; exact hq), hzs, hzc]
    simp [hlt]
  obtain ⟨C', h1', h2', h3', h4', h5', h6', h7', h8'⟩ := new_root (els := List.replicate m (ie.zero.map .val)) (sz := ie.sz) (ty := i.elem) (cs := Builtin.zeroCells z.cells m ++ Builtin.zeroCells z.cells (grownCap C.w m 0 i.elem - m)) (w' := C.w.drew.alloc (.cells (Builtin.zeroCells z.cells m ++ Builtin.zeroCells z.cells (grownCap C.w m 0 i.elem - m)) i.elem)) hC hb ⟨rfl, rfl, rfl, by simp⟩ rfl
    (by simp [Builtin.zeroCells, hzs]) (fun x hx => by rw [(List.mem_replicate.1 hx).2]; simpa using hz)
    (fun a x j c' hi' hj => by
      have hlt := (List.getElem?_eq_some_iff.1 hi').1
      rw [List.length_replicate] at hlt
      have hx := List.mem_replicate.1 (List.mem_of_getElem? hi')
      rw [hx.2] at hj
      have hj' := (List.getElem?_eq_some_iff.1 hj).1
      rw [List.length_map, hz] at hj'
      have := fit (k := a) (n := m) (sz := ie.sz) (j := j) (m := 1) hlt (by omega)
      obtain ⟨u, k1, k2⟩ := hget (a * ie.sz + j) (by omega)
      have e : (a * ie.sz + j) % ie.sz = j := by rw [Nat.mul_comm, Nat.mul_add_mod, Nat.mod_eq_of_lt hj']
      rw [e] at k2
      rw [List.getElem?_map, k2] at hj
      simp only [Option.map_some, Option.some.injEq] at hj
      subst hj
      exact ⟨u, k1, List.all_eq_true.1 hone u (List.mem_of_getElem? k2), .fro (.val u)⟩)
  refine ⟨_, _, C', run_runV (by rw [h1']; exact hr), .inl rfl, h2', h3', h4', h5', .ref h7' (fun sz xs hp => ?_), h8'⟩
  have hRb : C'.R b = some ⟨i.elem, ie.sz, List.replicate m (ie.zero.map .val)⟩ := by rw [h5']; simp [applyF]
  rw [act_of hRb] at hp
  simp only [Option.some.injEq, Prod.mk.injEq] at hp
  obtain ⟨rfl, rfl⟩ := hp
  refine ⟨by simp, hge, hcm, (fun h => by rw [h6'] at h; cases h), fun g hg => ?_⟩
  rw [h6'] at hg
  obtain rfl := Option.some.inj hg
  refine ⟨fun _ => by simp, by simp, _, i.elem, by rw [h1']; exact heap_alloc_new C.w.drew _, ?_⟩
  simp only [Builtin.zeroCells, Nat.zero_add, Array.size_append, Array.size_map, Array.size_range, hzs]
  rw [← Nat.add_mul]
  congr 1; omega
end Go.Ev
namespace Go.Ev
open Go
variable {P : Program} {C : Cx} {b : Nat}

def TabOK' (P : Program) (tab : Nat → TI) : Prop := ∀ t, (tab t).sz ≠ 0 → TIok P t (tab t)

def grd (p : Prop) (o : Option Out) : Option Out := o.map fun x => ⟨p ∧ x.c, x.v, x.wr⟩

/-- A slice's type and its elements' are known. -/
def slT (tab : Nat → TI) (t : TypeId) : Prop := (tab t).sz ≠ 0 ∧ (tab t).elem ≠ 0 ∧ (tab (tab t).elem).sz ≠ 0 ∧ (tab (tab t).elem).zero.length = (tab (tab t).elem).sz

def pickV (c x y : V) : Option Out :=
  match c with
  | .val (.bool t) => match t with | true => some ⟨True, x, []⟩ | false => some ⟨True, y, []⟩
  | _ => none

def checkV (x : V) : Option Out :=
  match x with
  | .ptr p i j => some ⟨True, .ptr p i j, []⟩
  | .ept x j => some ⟨True, .ept x j, []⟩
  | .clo f cs => some ⟨True, .clo f cs, []⟩
  | _ => none

def extractV (x : V) (n : Nat) : Option Out :=
  match x with
  | .tup vs => vs[n]?.map fun v => ⟨True, v, []⟩
  | _ => none

def binV (i : TI) (op : BinOp) (x y : V) : Option Out :=
  match x, y with
  | .val a, .val b => (bop i op a b).map fun (c, v) => ⟨c ∧ (i.k = 1 → i.sz ≠ 0), .val v, []⟩
  | _, _ => none

def unV (op : UnOp) (x : V) : Option Out :=
  match op, x with
  | .not, .val (.bool x) => some ⟨True, .val (.bool (!x)), []⟩
  | .neg, .val (.int k x) => some ⟨True, .val (.int k (k.wrap (-x))), []⟩
  | _, _ => none

def convV (d : TI) (x : V) : Option Out :=
  match x, d.ik with
  | .val (.int _ n), some k => some ⟨True, .val (.int k (k.wrap n)), []⟩
  | _, _ => none

def cloV (fn : Fn) (first caps : List V) : Option Out :=
  match fn, first with
  | .func f, [] => some ⟨True, .clo f caps, []⟩
  | _, _ => none

def callV (tab : Nat → TI) (L : Operand → V) (R : Rs) (b : Nat) (bi : Builtin) (args : List Operand) (ts : List TypeId) : Option Out :=
  match bi, args, ts with
  | .len, [x], [t] => grd ((tab t).sz ≠ 0) (lenV (tab t) (L x))
  | .append, [s, x], [t, u] => (grd (slT tab t ∧ slT tab u) ((appendV (tab t) (tab (tab t).elem) R b (L s) (L x)).or (append0V R (L s) (L x)))).or (grd (slT tab t) (growV (tab t) (tab (tab t).elem) (tab u) b (L s) (L x)))
  | .cap, [x], [t] => grd ((tab t).sz ≠ 0) (capV (tab t) (L x))
  | .copy, [d, s], [t, _] => grd (slT tab t) (copyV (tab (tab t).elem) R (L d) (L s))
  | .max, [x, y], _ => maxV true (L x) (L y)
  | .min, [x, y], _ => maxV false (L x) (L y)
  | _, _, _ => none

def act (tab : Nat → TI) (L : Operand → V) (R : Rs) (b : Nat) (o : Op) : Option Out :=
  match o with
  | .move x => some ⟨True, L x, []⟩
  | .assign x => some ⟨True, L x, []⟩
  | .nilCheck x => checkV (L x)
  | .pick c x y => pickV (L c) (L x) (L y)
  | .alloc t => grd ((tab t).sz ≠ 0) (some (allocV t (tab t) b))
  | .box t x => some (boxV t (tab t) b (L x))
  | .build t ps => grd ((tab t).sz ≠ 0 ∧ (tab t).fs ≠ []) (buildV (tab t) (ps.toList.map fun p => (p.1, L p.2)))
  | .buildSlice t len ps => grd (slT tab t) (buildSliceV (tab t) (tab (tab t).elem) R b len (ps.toList.map fun p => (p.1, L p.2)))
  | .load t a => grd ((tab t).sz ≠ 0) (loadV (tab t) R (L a))
  | .store t a x => grd ((tab t).sz ≠ 0) (storeV (tab t) R (L a) (L x))
  | .fieldAddr s x f => grd ((tab s).sz ≠ 0) (fieldAddrV (tab s) f (L x))
  | .field s x f => grd ((tab s).sz ≠ 0) (fieldV (tab s) f (L x))
  | .indexAddr t x i => grd (slT tab t) (indexAddrV (tab (tab t).elem) R (L x) (L i))
  | .extract x n => extractV (L x) n
  | .binOp op t x y _ => (binV (tab t) op (L x) (L y)).or (grd ((tab t).sz ≠ 0 ∧ (tab t).elem ≠ 0) (eqNilV R op (L x) (L y)))
  | .unOp op _ x => unV op (L x)
  | .convert s d x => grd ((tab s).sz ≠ 0 ∧ (tab d).sz ≠ 0) (convV (tab d) (L x))
  | .makeSlice t l c => grd (slT tab t) (makeV (tab t) (tab (tab t).elem) b (L l) (L c))
  | .slice t x lo hi none => grd (slT tab t) ((sliceV (tab (tab t).elem) R (L x) (lo.map L) (hi.map L)).or (sliceNV (L x) (lo.map L) (hi.map L)))
  | .makeFunc fn first caps => cloV fn (first.toList.map L) (caps.toList.map L)
  | .call ⟨.builtin bi, args, ts⟩ => callV tab L R b bi args.toList ts.toList
  | _ => none

theorem grd_some {p : Prop} {o : Option Out} {out : Out} (h : grd p o = some out) (hc : out.c) : p ∧ ∃ out', o = some out' ∧ out'.c ∧ ∀ {s : Sem Next}, OpOK P C s b out' → OpOK P C s b out := by
  unfold grd at h
  rw [Option.map_eq_some_iff] at h
  obtain ⟨x, rfl, rfl⟩ := h
  exact ⟨hc.1, x, rfl, hc.2, fun h => h⟩

theorem act_sound {tab : Nat → TI} (hT : TabOK P tab) (hC : Sat C) {ρ : Operand → Value} {L : Operand → V} (hL : ∀ x, VR C (ρ x) (L x)) (hb : ¬ C.A b) {o : Oper} {out : Out} (h : act tab L C.R b o.op = some out) (hc : out.c) : OpOK P C (execOp ρ o) b out := by
  unfold execOp
  generalize o.op = op at h
  cases op with
  | move x =>
    simp only [act, Option.some.injEq] at h
    subst h
    exact OpOK.pure hC rfl (hL x)
  | assign x =>
    simp only [act, Option.some.injEq] at h
    subst h
    exact OpOK.pure hC rfl (hL x)
  | nilCheck x =>
    simp only [act] at h
    have hx := hL x
    dsimp only
    unfold checkV at h
    split at h
    · rename_i e; rw [e] at hx
      obtain ⟨ad, e2, _⟩ := hx.ptr_inv
      simp only [Option.some.injEq] at h
      subst h
      rw [e2]
      refine OpOK.pure hC rfl ?_
      rw [← e2]; exact hx
    · rename_i e; rw [e] at hx
      simp only [Option.some.injEq] at h
      subst h
      have hx' := hx.ept_inv
      generalize ρ x = v at hx hx'
      cases hx' with
      | ept f h1 h2 h3 => exact OpOK.pure hC rfl hx
    · rename_i e; rw [e] at hx
      obtain ⟨vs, e2, _⟩ := hx.clo_inv
      simp only [Option.some.injEq] at h
      subst h
      rw [e2]
      refine OpOK.pure hC rfl ?_
      rw [← e2]; exact hx
    · cases h
  | pick c x y =>
    simp only [act] at h
    have hc' := hL c
    unfold pickV at h
    split at h
    · rename_i t e
      rw [e] at hc'
      have e2 := hc'.val_inv
      cases t with
      | true =>
        simp only [Option.some.injEq] at h
        subst h
        exact OpOK.pure hC (v' := ρ x) (by simp [e2, asBool]) (hL x)
      | false =>
        simp only [Option.some.injEq] at h
        subst h
        exact OpOK.pure hC (v' := ρ y) (by simp [e2, asBool]) (hL y)
    · cases h
  | alloc t =>
    simp only [act] at h
    obtain ⟨p, o', h1, h2, h3⟩ := grd_some (P := P) (C := C) (b := b) h hc
    cases h1
    exact h3 (ok_alloc (hT t p) hC hb h2)
  | box t x =>
    simp only [act, Option.some.injEq] at h
    subst h
    exact ok_box hC hb (hL x) hc
  | build t ps =>
    simp only [act] at h
    obtain ⟨p, o', h1, h2, h3⟩ := grd_some (P := P) (C := C) (b := b) h hc
    exact h3 (ok_build (hT t p.1) p.2 hC (fun q _ => hL q.2) h1 h2)
  | buildSlice t len ps =>
    simp only [act] at h
    obtain ⟨p, o', h1, h2, h3⟩ := grd_some (P := P) (C := C) (b := b) h hc
    exact h3 (ok_buildSlice (hT t p.1) p.2.1 (hT _ p.2.2.1) p.2.2.2 p.2.2.1 hC hb (fun q _ => hL q.2) h1 h2)
  | load t a =>
    simp only [act] at h
    obtain ⟨p, o', h1, h2, h3⟩ := grd_some (P := P) (C := C) (b := b) h hc
    exact h3 (ok_load (hT t p) hC (hL a) h1 h2)
  | store t a x =>
    simp only [act] at h
    obtain ⟨p, o', h1, h2, h3⟩ := grd_some (P := P) (C := C) (b := b) h hc
    exact h3 (ok_store (hT t p) hC (hL a) (hL x) h1 h2)
  | fieldAddr s x f =>
    simp only [act] at h
    obtain ⟨p, o', h1, h2, h3⟩ := grd_some (P := P) (C := C) (b := b) h hc
    exact h3 (ok_fieldAddr (hT s p) hC (hL x) h1 h2)
  | field s x f =>
    simp only [act] at h
    obtain ⟨p, o', h1, h2, h3⟩ := grd_some (P := P) (C := C) (b := b) h hc
    exact h3 (ok_field (hT s p) hC (hL x) h1 h2)
  | indexAddr t x i =>
    simp only [act] at h
    obtain ⟨p, o', h1, h2, h3⟩ := grd_some (P := P) (C := C) (b := b) h hc
    exact h3 (ok_indexAddr (hT t p.1) p.2.1 (hT _ p.2.2.1) hC (hL x) (hL i) h1 h2)
  | extract x n =>
    simp only [act] at h
    have hx := hL x
    unfold extractV at h
    split at h
    · rename_i vs e
      rw [e] at hx
      rw [Option.map_eq_some_iff] at h
      obtain ⟨v, h1, rfl⟩ := h
      exact ok_extract hC hx h1
    · cases h
  | binOp op t x y yt =>
    simp only [act] at h
    have hx := hL x
    have hy := hL y
    rcases Option.or_eq_some_iff.1 h with h | ⟨_, h⟩
    rotate_left
    · obtain ⟨p, o', h1, h2, h3⟩ := grd_some (P := P) (C := C) (b := b) h hc
      have r := ok_eqNil (ox := x) (oy := y) (b := b) hC (hT t p.1) p.2 hx hy h1 h2
      have r := h3 r
      unfold OpOK at r ⊢
      exact r
    unfold binV at h
    split at h
    · rename_i u v e1 e2
      rw [e1] at hx
      rw [e2] at hy
      rw [Option.map_eq_some_iff] at h
      obtain ⟨⟨c, w⟩, h1, rfl⟩ := h
      have r := ok_bin (P := P) (ox := x) (oy := y) (b := b) (fun hk => (hT t (hc.2 hk)).kb hk) hC hx hy h1 hc.1
      unfold OpOK at r ⊢
      exact r
    · cases h
  | unOp op t x =>
    simp only [act] at h
    have hx := hL x
    unfold unV at h
    split at h
    · rename_i u e1
      rw [e1] at hx
      simp only [Option.some.injEq] at h
      subst h
      exact ok_not hC hx
    · rename_i k u e1
      rw [e1] at hx
      simp only [Option.some.injEq] at h
      subst h
      exact ok_neg hC hx
    · cases h
  | convert s d x =>
    simp only [act] at h
    obtain ⟨p, o', h1, h2, h3⟩ := grd_some (P := P) (C := C) (b := b) h hc
    refine h3 ?_
    have hx := hL x
    unfold convV at h1
    split at h1
    · rename_i k n k' e1 e2
      rw [e1] at hx
      simp only [Option.some.injEq] at h1
      subst h1
      exact ok_conv (hT s p.1) (hT d p.2) hC hx e2
    · cases h1
  | makeSlice t l c =>
    simp only [act] at h
    obtain ⟨p, o', h1, h2, h3⟩ := grd_some (P := P) (C := C) (b := b) h hc
    exact h3 (ok_make (hT t p.1) p.2.1 (hT _ p.2.2.1) p.2.2.1 hC hb (hL l) (hL c) h1 h2)
  | slice t x lo hi mx =>
    cases mx with
    | some _ => simp [act] at h
    | none =>
      simp only [act] at h
      obtain ⟨p, o', h1, h2, h3⟩ := grd_some (P := P) (C := C) (b := b) h hc
      have f1 : ∀ y, lo.map L = some y → ∃ v, lo.map ρ = some v ∧ VR C v y := fun y hy => by
        cases lo with
        | none => cases hy
        | some l => cases hy; exact ⟨_, rfl, hL l⟩
      have f2 : lo.map L = none → lo.map ρ = none := fun hy => by
        cases lo with
        | none => rfl
        | some l => cases hy
      have f3 : ∀ y, hi.map L = some y → ∃ v, hi.map ρ = some v ∧ VR C v y := fun y hy => by
        cases hi with
        | none => cases hy
        | some l => cases hy; exact ⟨_, rfl, hL l⟩
      have f4 : hi.map L = none → hi.map ρ = none := fun hy => by
        cases hi with
        | none => rfl
        | some l => cases hy
      rcases Option.or_eq_some_iff.1 h1 with h1 | ⟨_, h1⟩
      · exact h3 (ok_slice (hT t p.1) p.2.1 (hT _ p.2.2.1) hC (hL x) f1 f2 f3 f4 h1 h2)
      · exact h3 (ok_sliceN (hT t p.1) p.2.1 (hT _ p.2.2.1) hC (hL x) f1 f2 f3 f4 h1 h2)
  | makeFunc fn first caps =>
    simp only [act] at h
    unfold cloV at h
    split at h
    · rename_i f e
      simp only [Option.some.injEq] at h
      subst h
      have hf : first = #[] := by
        have : first.toList = [] := by simpa using e
        exact Array.toList_eq_nil_iff.1 this
      subst hf
      refine OpOK.pure hC (v' := .func (.func f) #[] (caps.map ρ)) (by simp [Instr.makeFunc]) (.clo (by simp) (fun i v c h1 h2 => ?_))
      rw [List.getElem?_map, Option.map_eq_some_iff] at h2
      obtain ⟨x, hx, rfl⟩ := h2
      have hx' : caps[i]? = some x := by simpa using hx
      rw [Array.getElem?_map, hx'] at h1
      cases h1
      exact hL x
    · cases h
  | call c =>
    obtain ⟨callee, args, ts⟩ := c
    cases callee with
    | builtin bi =>
      simp only [act] at h
      unfold callV at h
      split at h
      · rename_i x t e1 e2
        obtain ⟨p, o', h1, h2, h3⟩ := grd_some (P := P) (C := C) (b := b) h hc
        have a1 : args = #[x] := Array.ext' e1
        have a2 : ts = #[t] := Array.ext' e2
        subst a1; subst a2
        refine h3 ?_
        have := ok_len (b := b) (ty := o.type) (hT t p) hC (hL x) h1 h2
        simpa [resolve, invoke, builtin, runV] using this
      · rename_i s x t u e1 e2
        have a1 : args = #[s, x] := Array.ext' e1
        have a2 : ts = #[t, u] := Array.ext' e2
        subst a1; subst a2
        rcases Option.or_eq_some_iff.1 h with h | ⟨_, h⟩
        rotate_left
        · obtain ⟨p, o', h1, h2, h3⟩ := grd_some (P := P) (C := C) (b := b) h hc
          refine h3 ?_
          have := ok_grow (P := P) (b := b) (t := t) (u := u) (ty := o.type) (hT t p.1) p.2.1 (hT u) (hT _ p.2.2.1) p.2.2.1 hC hb (hL s) (hL x) h1 h2
          simpa [resolve, invoke, builtin, runV] using this
        obtain ⟨p, o', h1, h2, h3⟩ := grd_some (P := P) (C := C) (b := b) h hc
        refine h3 ?_
        obtain ⟨p1, p2⟩ := p
        rcases Option.or_eq_some_iff.1 h1 with h1 | ⟨_, h1⟩
        rotate_left
        · have := ok_append0 (P := P) (b := b) (t := t) (u := u) (ty := o.type) (hT t p1.1) p1.2.1 (hT u p2.1) p2.2.1 (hT _ p1.2.2.1) hC (hL s) (hL x) h1 h2
          simpa [resolve, invoke, builtin, runV] using this
        have := ok_append (b := b) (ty := o.type) (hT t p1.1) p1.2.1 (hT u p2.1) p2.2.1 (hT _ p1.2.2.1) p1.2.2.2 p1.2.2.1 hC hb (hL s) (hL x) h1 h2
        simpa [resolve, invoke, builtin, runV] using this
      · rename_i x t e1 e2
        obtain ⟨p, o', h1, h2, h3⟩ := grd_some (P := P) (C := C) (b := b) h hc
        have a1 : args = #[x] := Array.ext' e1
        have a2 : ts = #[t] := Array.ext' e2
        subst a1; subst a2
        refine h3 ?_
        have := ok_cap (b := b) (ty := o.type) (hT t p) hC (hL x) h1 h2
        simpa [resolve, invoke, builtin, runV] using this
      · rename_i d s t u e1 e2
        obtain ⟨p, o', h1, h2, h3⟩ := grd_some (P := P) (C := C) (b := b) h hc
        have a1 : args = #[d, s] := Array.ext' e1
        have a2 : ts = #[t, u] := Array.ext' e2
        subst a1; subst a2
        refine h3 ?_
        have := ok_copy (P := P) (b := b) (t := t) (u := u) (ty := o.type) (hT t p.1) p.2.1 (hT _ p.2.2.1) hC (hL d) (hL s) h1 h2
        simpa [resolve, invoke, builtin, runV] using this
      · rename_i x y e1 
        have a1 : args = #[x, y] := Array.ext' e1
        subst a1
        have := ok_max (P := P) (b := b) (t := ts) (ty := o.type) hC (hL x) (hL y) (mx := true) h
        simpa [resolve, invoke, builtin, runV] using this
      · rename_i x y e1
        have a1 : args = #[x, y] := Array.ext' e1
        subst a1
        have := ok_max (P := P) (b := b) (t := ts) (ty := o.type) hC (hL x) (hL y) (mx := false) h
        simpa [resolve, invoke, builtin, runV] using this
      · cases h
    | value f => simp [act] at h
    | invoke r m => simp [act] at h
  | _ => simp [act] at h
end Go.Ev
namespace Go.Ev
open Go
variable {P : Program} {C : Cx} {b : Nat}

/-- No own memory in a cell, in a value, in a root's cell. -/
def noN0 : V → Bool
  | .any | .val _ | .list .. | .ept .. => true
  | _ => false
def noN : V → Bool
  | .agg cs | .tup cs | .clo _ cs => cs.all noN0
  | x => noN0 x
def noNR : V → Bool
  | .row _ xs => xs.all (·.all noN0)
  | c => noN0 c

theorem VR.rd0 {v : Value} {c : V} (h : VR C v c) (hn : noN0 c = true) : Rd C.w C.F v c := by
  cases h with
  | fro h => exact h
  | _ => simp [noN0] at hn

theorem VR.rd {v : Value} {x : V} (h : VR C v x) (hn : noN x = true) : Rd C.w C.F v x := by
  cases h with
  | fro h => exact h
  | agg hl h => exact .agg hl fun i v c h1 h2 => (h i v c h1 h2).rd0 (List.all_eq_true.1 hn c (List.mem_of_getElem? h2))
  | tup hl h => exact .tup hl fun i v c h1 h2 => (h i v c h1 h2).rd0 (List.all_eq_true.1 hn c (List.mem_of_getElem? h2))
  | clo hl h => exact .clo hl fun i v c h1 h2 => (h i v c h1 h2).rd0 (List.all_eq_true.1 hn c (List.mem_of_getElem? h2))
  | ref => simp [noN, noN0] at hn
  | ptr => simp [noN, noN0] at hn

/-- A cell of a root, seen frozen. -/
inductive FrzR : V → V → Prop
  | same {c : V} (h : noN0 c = true) : FrzR c c
  | any {c : V} : FrzR c .any
  | row {sz : Nat} {xs : List (List V)} (h : xs.all (·.all noN0) = true) : FrzR (.row sz xs) (.list sz xs)

inductive FrzRL : List V → List V → Prop
  | nil : FrzRL [] []
  | cons {c d : V} {cs ds : List V} (h : FrzR c d) (k : FrzRL cs ds) : FrzRL (c :: cs) (d :: ds)

def FrzE (xs ys : List (List V)) : Prop := xs.length = ys.length ∧ ∀ (i : Nat) x y, xs[i]? = some x → ys[i]? = some y → FrzRL x y

theorem FrzRL.len {cs ds : List V} (h : FrzRL cs ds) : cs.length = ds.length := by
  induction h with
  | nil => rfl
  | cons h k ih => simp [ih]

theorem FrzRL.get {cs ds : List V} (h : FrzRL cs ds) : ∀ (j : Nat) c d, cs[j]? = some c → ds[j]? = some d → FrzR c d := by
  induction h with
  | nil => intro j c d h; simp at h
  | cons h k ih =>
    intro j c d h1 h2
    cases j with
    | zero => simp only [List.getElem?_cons_zero, Option.some.injEq] at h1 h2; subst h1; subst h2; exact h
    | succ j => exact ih j c d (by simpa using h1) (by simpa using h2)

theorem frzE_map {α : Type} {f g : α → List V} (h : ∀ a, FrzRL (f a) (g a)) (l : List α) : FrzE (l.map f) (l.map g) := by
  refine ⟨by simp, fun i x y h1 h2 => ?_⟩
  rw [List.getElem?_map, Option.map_eq_some_iff] at h1 h2
  obtain ⟨a, ha, rfl⟩ := h1
  obtain ⟨a', ha', rfl⟩ := h2
  obtain rfl := Option.some.inj (ha.symm.trans ha')
  exact h a

inductive FrzC (R : Rs) : V → V → Prop
  | same {x : V} (h : noN x = true) : FrzC R x x
  | any {x : V} : FrzC R x .any
  | ref {p : Pl} {off len sz : Nat} {xs zs ys : List (List V)} (h : getP R p = some (sz, xs)) (hc : cut xs off len = zs) (hz : FrzE zs ys) : FrzC R (.ref p off len) (.list sz ys)

inductive FrzL (R : Rs) : List V → List V → Prop
  | nil : FrzL R [] []
  | cons {c d : V} {cs ds : List V} (h : FrzC R c d) (k : FrzL R cs ds) : FrzL R (c :: cs) (d :: ds)

inductive Frz (R : Rs) : V → V → Prop
  | cell {x y : V} (h : FrzC R x y) : Frz R x y
  | agg {cs ds : List V} (h : FrzL R cs ds) : Frz R (.agg cs) (.agg ds)
  | clo {f : FuncId} {cs ds : List V} (h : FrzL R cs ds) : Frz R (.clo f cs) (.clo f ds)

inductive FrzA (R : Rs) : List V → List V → Prop
  | nil : FrzA R [] []
  | cons {c d : V} {cs ds : List V} (h : Frz R c d) (k : FrzA R cs ds) : FrzA R (c :: cs) (d :: ds)

/-- All blocks that can be read. -/
def FO (C : Cx) (b : Nat) : Prop := C.F b ∨ Owned C b

theorem Rd.wide {v : Value} {x : V} (h : Rd C.w C.F v x) : Rd C.w (FO C) v x := h.mono (fun _ _ => rfl) fun _ h => .inl h

/-- An own slice reads as a frozen one. -/
theorem ref_frz (hC : Sat C) {v : Value} {p : Pl} {off len sz : Nat} {xs zs ys : List (List V)} (hv : VR C v (.ref p off len)) (h : getP C.R p = some (sz, xs)) (hc : cut xs off len = zs) (hz : FrzE zs ys)
    (hrow : ∀ (i : Nat) y (j : Nat) s us, zs[i]? = some y → y[j]? = some (.row s us) → ∀ u, (VR C u (.ref (p.1, some (off + i, j)) 0 us.length)) → us.all (·.all noN0) = true → Rd C.w (FO C) u (.list s us)) : Rd C.w (FO C) v (.list sz ys) := by
  have he : elsOf C.R (.ref p off len) = some (sz, zs) := by simp only [elsOf, h, Option.map_some, hc]
  obtain ⟨a, cap, f, rfl, k1, k2, k3, k4, k5⟩ := src_rep hC hv he
  obtain ⟨z1, z2⟩ := hz
  have hact : Act? C p := by unfold Act?; rw [h]; rfl
  have hlen : zs.length = len := by
    obtain ⟨a', cap', e, hA, hp⟩ := hv.ref_inv
    simp only [Value.slice.injEq] at e
    exact e.2.1
  rcases Nat.eq_zero_or_pos zs.length with h0 | hpos
  · rw [h0] at z1
    have hy0 : ys = [] := List.eq_nil_of_length_eq_zero z1.symm
    subst hy0
    rw [h0]
    exact .list ⟨0, 0, none⟩ (fun _ _ => undef) rfl (by simp) (by omega) (by simp) (by omega) (by omega) (by simp) (by simp)
  · obtain ⟨ad, rfl, hcell⟩ := k4 hpos
    have pair : ∀ (i : Nat) y (j : Nat) d, ys[i]? = some y → y[j]? = some d → ∃ z c, zs[i]? = some z ∧ z[j]? = some c ∧ FrzR c d ∧ i < zs.length ∧ j < sz := by
      intro i y j d h1 h2
      have hi := (List.getElem?_eq_some_iff.1 h1).1
      have e1 : zs[i]? = some (zs[i]'(by omega)) := List.getElem?_eq_getElem _
      have fr := z2 i _ y e1 h1
      have hj := (List.getElem?_eq_some_iff.1 h2).1
      rw [← fr.len] at hj
      have e2 : zs[i][j]? = some (zs[i][j]'hj) := List.getElem?_eq_getElem _
      have := k3 _ (List.mem_of_getElem? e1)
      exact ⟨_, _, e1, e2, fr.get j _ d e2 h2, by omega, by omega⟩
    have hblk : FO C ad.block := by
      obtain ⟨a', cap', e, hA, hp⟩ := hv.ref_inv
      simp only [Value.slice.injEq] at e
      obtain ⟨rfl, _, rfl⟩ := e
      obtain ⟨o1, o2, o3, o4, o5⟩ := hp _ _ h
      cases hio : C.io p with
      | none => have := (o4 hio).2; omega
      | some g =>
        have := (o5 g hio).1 (.inl (by omega))
        cases this
        exact .inr ⟨p, hact, hio⟩
    refine .list ad f z1.symm k2 k1 (fun y hy => ?_) (fun _ => rfl) (fun _ => hblk) (fun i y j d h1 h2 => ?_) (fun i y j d h1 h2 => ?_)
    · obtain ⟨i, hi⟩ := List.getElem?_of_mem hy
      have hi' := (List.getElem?_eq_some_iff.1 hi).1
      have e1 : zs[i]? = some (zs[i]'(by omega)) := List.getElem?_eq_getElem _
      rw [← (z2 i _ y e1 hi).len]
      exact k3 _ (List.mem_of_getElem? e1)
    · obtain ⟨z, c, e1, e2, e3, e4, e5⟩ := pair i y j d h1 h2
      exact ⟨hcell i j e4 e5, (k5 i z j c e1 e2).1⟩
    · obtain ⟨z, c, e1, e2, e3, e4, e5⟩ := pair i y j d h1 h2
      obtain ⟨m1, m2⟩ := k5 i z j c e1 e2
      cases e3 with
      | any => exact .any _
      | same hn =>
        refine Rd.wide (VR.rd0 ?_ hn)
        rcases m2 with m2 | ⟨q, o, l, e, m2⟩
        · exact m2
        · cases d <;> first | exact m2 | simp [noN0] at hn
      | row hn =>
        rcases m2 with m2 | ⟨q, o, l, e, m2⟩
        · exact m2.not_row.elim
        · simp only [V.ref.injEq] at e
          obtain ⟨rfl, rfl, rfl⟩ := e
          exact hrow i z j _ _ e1 e2 _ m2.2 hn

theorem norow_noN0 {us : List (List V)} (h : us.all (·.all noN0) = true) : FrzE us us := by
  refine ⟨rfl, fun i x y h1 h2 => ?_⟩
  obtain rfl := Option.some.inj (h1.symm.trans h2)
  have hx := List.all_eq_true.1 h x (List.mem_of_getElem? h1)
  clear h h1 h2
  induction x with
  | nil => exact .nil
  | cons c cs ih =>
    simp only [List.all_cons, Bool.and_eq_true] at hx
    exact .cons (.same hx.1) (ih hx.2)

theorem FrzC.sound (hC : Sat C) {v : Value} {x y : V} (h : FrzC C.R x y) (hv : VR C v x) : Rd C.w (FO C) v y := by
  cases h with
  | same h => exact Rd.wide (hv.rd h)
  | any => exact .any _
  | ref h hc hz =>
    rename_i p off len sz xs zs ys
    refine ref_frz hC hv h hc hz (fun i z j s us h1 h2 u hu hn => ?_)
    rw [← hc, cut_eq, List.getElem?_take] at h1
    split at h1
    case isFalse => cases h1
    rw [List.getElem?_drop] at h1
    obtain ⟨n, q⟩ := p
    obtain ⟨r, hr⟩ := getP_some h
    cases q with
    | none =>
      rw [act_of hr] at h
      simp only [Option.some.injEq, Prod.mk.injEq] at h
      obtain ⟨rfl, rfl⟩ := h
      have hp := getP_cell hr h1 h2
      refine ref_frz hC hu hp (zs := us) (by simp [cut]) (norow_noN0 hn) (fun i' z' j' s' us' h3 h4 => ?_)
      have := List.all_eq_true.1 (List.all_eq_true.1 hn z' (List.mem_of_getElem? h3)) _ (List.mem_of_getElem? h4)
      simp [noN0] at this
    | some ij =>
      exact absurd rfl (sat_norow hC h z (List.mem_of_getElem? h1) _ (List.mem_of_getElem? h2) s us)

theorem FrzL.sound (hC : Sat C) {cs ds : List V} (h : FrzL C.R cs ds) : cs.length = ds.length ∧ ∀ (vs : Array Value), vs.size = cs.length → (∀ (i : Nat) v c, vs[i]? = some v → cs[i]? = some c → VR C v c) → ∀ (i : Nat) v d, vs[i]? = some v → ds[i]? = some d → Rd C.w (FO C) v d := by
  have key : cs.length = ds.length ∧ ∀ (i : Nat) d, ds[i]? = some d → ∃ c, cs[i]? = some c ∧ FrzC C.R c d := by
    induction h with
    | nil => exact ⟨rfl, fun i d h => by simp at h⟩
    | cons h k ih =>
      refine ⟨by simp [ih.1], fun i d hd => ?_⟩
      cases i with
      | zero => simp only [List.getElem?_cons_zero, Option.some.injEq] at hd; subst hd; exact ⟨_, rfl, h⟩
      | succ i => exact ih.2 i d (by simpa using hd)
  refine ⟨key.1, fun vs hs hv i v d h1 h2 => ?_⟩
  obtain ⟨c, hc, hf⟩ := key.2 i d h2
  exact hf.sound hC (hv i v c h1 hc)

theorem Frz.sound (hC : Sat C) {v : Value} {x y : V} (h : Frz C.R x y) (hv : VR C v x) : Rd C.w (FO C) v y := by
  cases h with
  | cell h => exact h.sound hC hv
  | agg h =>
    obtain ⟨vs, rfl, hl, hh⟩ := hv.agg_inv
    obtain ⟨k1, k2⟩ := h.sound hC
    exact .agg (hl.trans k1) (k2 vs hl hh)
  | clo h =>
    obtain ⟨vs, rfl, hl, hh⟩ := hv.clo_inv
    obtain ⟨k1, k2⟩ := h.sound hC
    exact .clo (hl.trans k1) (k2 vs hl hh)

theorem FrzA.sound (hC : Sat C) {cs ds : List V} (h : FrzA C.R cs ds) : cs.length = ds.length ∧ ∀ (vs : Array Value), (∀ (i : Nat) v c, vs[i]? = some v → cs[i]? = some c → VR C v c) → ∀ (i : Nat) v d, vs[i]? = some v → ds[i]? = some d → Rd C.w (FO C) v d := by
  have key : cs.length = ds.length ∧ ∀ (i : Nat) d, ds[i]? = some d → ∃ c, cs[i]? = some c ∧ Frz C.R c d := by
    induction h with
    | nil => exact ⟨rfl, fun i d h => by simp at h⟩
    | cons h k ih =>
      refine ⟨by simp [ih.1], fun i d hd => ?_⟩
      cases i with
      | zero => simp only [List.getElem?_cons_zero, Option.some.injEq] at hd; subst hd; exact ⟨_, rfl, h⟩
      | succ i => exact ih.2 i d (by simpa using hd)
  refine ⟨key.1, fun vs hv i v d h1 h2 => ?_⟩
  obtain ⟨c, hc, hf⟩ := key.2 i d h2
  exact hf.sound hC (hv i v c h1 hc)
end Go.Ev
namespace Go.Ev
open Go Go.RowKit
variable {P : Program} {C : Cx} {b : Nat}

/-- A function with a body. -/
def Callable (P : Program) (f : FuncId) : Prop := ∃ fn, P.funcs[f]? = some fn ∧ (fn.name == "runtime.NumGoroutine") = false ∧ fn.body.isNone = false

/-- A function's contract by value: frozen arguments, a result, the roots in it (names 0, 1, ..). -/
def Good (P : Program) (f : FuncId) (args : List V) (v : V) (rs : List Root) : Prop :=
  Callable P f ∧ ∀ (w : World) (F : Nat → Prop) (vals : Array Value), (∀ k, F k → k < w.heap.size) → vals.size = args.length → (∀ (i : Nat) v x, vals[i]? = some v → args[i]? = some x → Rd w F v x) →
    Calls P f vals w fun e w' => ∃ v' C', e = .returned v' ∧ C'.w = w' ∧ Sat C' ∧ (C'.R = fun n => rs[n]?) ∧ VR C' v' v ∧ Below w.heap.size w w' ∧ (∀ k, C'.F k → w.heap.size ≤ k) ∧ (∀ k, Owned C' k → w.heap.size ≤ k) ∧
      (∀ k, C'.A k → k < rs.length) ∧ ∀ r, r ∈ rs → r.els.all (·.all noNR) = true

def shC (b : Nat) : V → V
  | .ref p off len => .ref (b + p.1, p.2) off len
  | .ptr p i j => .ptr (b + p.1, p.2) i j
  | x => if noN x = true then x else .any
def shA (b : Nat) : V → V
  | .agg cs => .agg (cs.map (shC b))
  | x => shC b x
def shV (b : Nat) : V → V
  | .tup vs => .tup (vs.map (shA b))
  | x => shA b x

def newsL : Nat → List Root → List (Nat × Option Root)
  | _, [] => []
  | b, r :: rs => (b, some r) :: newsL (b + 1) rs

theorem applyF_news : ∀ (rs : List Root) (b : Nat) (R : Rs), (∀ n, b ≤ n → n < b + rs.length → R n = none) → applyF R (newsL b rs) = fun n => if b ≤ n ∧ n < b + rs.length then rs[n - b]? else R n
  | [], b, R, h => by
    funext n
    have : ¬ (b ≤ n ∧ n < b + ([] : List Root).length) := by simp only [List.length_nil]; omega
    rw [if_neg this]
    try rfl
  | r :: rs, b, R, h => by
    simp only [newsL, applyF]
    rw [applyF_news rs (b + 1) _ (fun n h1 h2 => by
      try rw [if_neg (by omega)]
      exact h n (by omega) (by have e : (r :: rs).length = rs.length + 1 := rfl; omega))]
    funext n
    simp only [List.length_cons]
    by_cases e : n = b
    · subst e
      rw [if_neg (by omega), if_pos rfl, if_pos (by omega)]
      simp
    · by_cases a : b + 1 ≤ n ∧ n < b + 1 + rs.length
      · rw [if_pos a, if_pos (by omega)]
        have : n - b = (n - (b + 1)) + 1 := by omega
        rw [this, List.getElem?_cons_succ]
      · rw [if_neg a, if_neg e, if_neg (by omega)]

def callCx (C C' : Cx) (b n : Nat) : Cx where
  w := C'.w
  F := fun k => C.F k ∨ C'.F k
  io := fun p => if b ≤ p.1 ∧ p.1 < b + n then C'.io (p.1 - b, p.2) else C.io p
  R := fun m => if b ≤ m ∧ m < b + n then C'.R (m - b) else C.R m
  A := fun m => C.A m ∨ (b ≤ m ∧ m < b + n)

theorem call_val {f : FuncId} {ys : List V} {v : V} {rs : List Root} (hG : Good P f ys v rs) (hC : Sat C) {xs : List V} {vals : Array Value} (hl : vals.size = xs.length) (hv : ∀ (i : Nat) v x, vals[i]? = some v → xs[i]? = some x → VR C v x)
    (hz : FrzA C.R xs ys) (hb : ∀ n, b ≤ n → n < b + rs.length → ¬ C.A n) :
    Calls P f vals C.w fun e w' => ∃ v' C'', e = .returned v' ∧ C''.w = w' ∧ Sat C'' ∧ Ext C C'' ∧ Fr C C'' ∧ C''.R = applyF C.R (newsL b rs) ∧ VR C'' v' (shV b v) ∧ ∀ n, C''.A n → C.A n ∨ (b ≤ n ∧ n < b + rs.length) := by
  obtain ⟨z1, z2⟩ := hz.sound hC
  refine (hG.2 C.w (FO C) vals (fun k hk => hk.elim (hC.lt k) hC.owned_lt) (hl.trans z1) (z2 vals hv)).mono ?_
  rintro e w' ⟨v', C', rfl, rfl, hS, hR, hV, hB, hF, hO, hA, hN⟩
  have hnone : ∀ n, b ≤ n → n < b + rs.length → C.R n = none := by
    intro n h1 h2
    cases e : C.R n with
    | none => rfl
    | some r => exact absurd (hC.nm n r e) (hb n h1 h2)
  have old : ∀ k, k < C.w.heap.size → C'.w.heap[k]? = C.w.heap[k]? := hB.block
  have hio0 : ∀ p, ¬ (b ≤ p.1 ∧ p.1 < b + rs.length) → (callCx C C' b rs.length).io p = C.io p := fun p h => if_neg h
  have hio1 : ∀ p, (b ≤ p.1 ∧ p.1 < b + rs.length) → (callCx C C' b rs.length).io p = C'.io (p.1 - b, p.2) := fun p h => if_pos h
  have hR0 : ∀ p, ¬ (b ≤ p.1 ∧ p.1 < b + rs.length) → getP (callCx C C' b rs.length).R p = getP C.R p := fun p h => getP_congr (if_neg h)
  have hR1 : ∀ p, (b ≤ p.1 ∧ p.1 < b + rs.length) → getP (callCx C C' b rs.length).R p = getP C'.R (p.1 - b, p.2) := by
    intro p h
    unfold getP
    have : (callCx C C' b rs.length).R p.1 = C'.R (p.1 - b) := if_pos h
    rw [this]
  have e1 : Ext C (callCx C C' b rs.length) := by
    refine ⟨fun k hk => old k (hC.lt k hk), fun k hk => .inl hk, fun n hn => .inl hn, fun p hp sz xs' hg => ?_⟩
    have hn : ¬ (b ≤ p.1 ∧ p.1 < b + rs.length) := fun h => hb p.1 h.1 h.2 hp
    rw [hR0 p hn] at hg
    have ha : Act? C p := by unfold Act?; rw [hg]; rfl
    refine ⟨xs', hg, Nat.le_refl _, hio0 p hn, fun g hgi cs ty hh => ⟨cs, ?_, rfl⟩⟩
    rw [← hh]
    exact old g (hC.owned_lt ⟨p, ha, hgi⟩)
  -- what is new
  have slx : ∀ k s a off len cap, k < rs.length → (∀ sz xs, getP C'.R (k, s) = some (sz, xs) → SlAt C' (k, s) sz xs a off len cap) → ∀ sz xs, getP (callCx C C' b rs.length).R (b + k, s) = some (sz, xs) → SlAt (callCx C C' b rs.length) (b + k, s) sz xs a off len cap := by
    intro k s a off len cap hk h sz xs hg
    have hin : b ≤ ((b + k, s) : Pl).1 ∧ ((b + k, s) : Pl).1 < b + rs.length := ⟨Nat.le_add_right _ _, by show b + k < _; omega⟩
    rw [hR1 _ hin] at hg
    simp only [Nat.add_sub_cancel_left] at hg
    obtain ⟨o1, o2, o3, o4, o5⟩ := h sz xs hg
    have hio := hio1 _ hin
    simp only [Nat.add_sub_cancel_left] at hio
    exact ⟨o1, o2, o3, fun hn => o4 (hio ▸ hn), fun g hgi => o5 g (hio ▸ hgi)⟩
  have sh0 : ∀ u c, VR C' u c → VR (callCx C C' b rs.length) u (shC b c) := by
    intro u c hu
    cases c with
    | ref p off len =>
      obtain ⟨a, cap, rfl, h1, h2⟩ := hu.ref_inv
      exact .ref (.inr ⟨Nat.le_add_right _ _, by have := hA _ h1; omega⟩) (slx p.1 p.2 a off len cap (hA _ h1) h2)
    | ptr p i j =>
      obtain ⟨ad, rfl, h1, h2⟩ := hu.ptr_inv
      have hk := hA _ h1
      refine .ptr (.inr ⟨Nat.le_add_right _ _, by omega⟩) (fun sz xs hg => ?_)
      have hin : b ≤ ((b + p.1, p.2) : Pl).1 ∧ ((b + p.1, p.2) : Pl).1 < b + rs.length := ⟨Nat.le_add_right _ _, by show b + p.1 < _; omega⟩
      rw [hR1 _ hin] at hg
      simp only [Nat.add_sub_cancel_left] at hg
      obtain ⟨g, k1, k2⟩ := h2 sz xs hg
      have hio := hio1 _ hin
      simp only [Nat.add_sub_cancel_left] at hio
      exact ⟨g, by rw [hio]; exact k1, k2⟩
    | _ =>
      simp only [shC]
      split
      · rename_i hn
        exact .fro ((hu.rd hn).mono (fun _ _ => rfl) fun k hk => .inr hk)
      · exact .fro (.any _)
  have sh1 : ∀ u c, VR C' u c → VR (callCx C C' b rs.length) u (shA b c) := by
    intro u c hu
    cases c with
    | agg cs =>
      obtain ⟨vs, rfl, h1, h2⟩ := hu.agg_inv
      refine .agg (by simpa using h1) (fun i u c h3 h4 => ?_)
      rw [List.getElem?_map, Option.map_eq_some_iff] at h4
      obtain ⟨d, hd, rfl⟩ := h4
      exact sh0 u d (h2 i u d h3 hd)
    | _ => exact sh0 u _ hu
  have sh2 : VR (callCx C C' b rs.length) v' (shV b v) := by
    cases v with
    | tup cs =>
      obtain ⟨vs, rfl, h1, h2⟩ := hV.tup_inv
      refine .tup (by simpa using h1) (fun i u c h3 h4 => ?_)
      rw [List.getElem?_map, Option.map_eq_some_iff] at h4
      obtain ⟨d, hd, rfl⟩ := h4
      exact sh1 u d (h2 i u d h3 hd)
    | _ => exact sh1 v' _ hV
  have newp : ∀ p sz xs, (b ≤ p.1 ∧ p.1 < b + rs.length) → getP (callCx C C' b rs.length).R p = some (sz, xs) → getP C'.R (p.1 - b, p.2) = some (sz, xs) := fun p sz xs h hg => by rw [← hR1 p h]; exact hg
  have acto : ∀ p, ¬ (b ≤ p.1 ∧ p.1 < b + rs.length) → Act? (callCx C C' b rs.length) p → Act? C p := fun p h ha => by unfold Act? at ha ⊢; rw [← hR0 p h]; exact ha
  have actn : ∀ p, (b ≤ p.1 ∧ p.1 < b + rs.length) → Act? (callCx C C' b rs.length) p → Act? C' (p.1 - b, p.2) := fun p h ha => by unfold Act? at ha ⊢; rw [← hR1 p h]; exact ha
  refine ⟨v', callCx C C' b rs.length, rfl, rfl, ⟨?_, ?_, ?_, ?_, ?_⟩, e1, ⟨hB.os, hB.tape, hB.output, hB.size, fun k hk _ => old k hk, ?_, fun k hk => hk.imp id fun h => .inr (hF k h)⟩, ?_, sh2, fun n hn => hn⟩
  · intro p sz xs hg
    by_cases hin : b ≤ p.1 ∧ p.1 < b + rs.length
    · have hg' := newp p sz xs hin hg
      obtain ⟨k1, k2, k3⟩ := hS.pl _ _ _ hg'
      refine ⟨k1, fun h => k2 (by rw [← hio1 p hin]; exact h), fun g hgi => ?_⟩
      rw [hio1 p hin] at hgi
      obtain ⟨cs, ty, m1, m2, m3, m4⟩ := k3 g hgi
      refine ⟨cs, ty, m1, fun h r hr => m2 h r (by rw [← hr]; exact (if_pos hin).symm), m3, fun i x j c h1 h2 => ?_⟩
      obtain ⟨u, n1, n2, n3⟩ := m4 i x j c h1 h2
      refine ⟨u, n1, n2, ?_⟩
      have hkl : p.1 - b < rs.length := by omega
      have hcn : noNR c = true ∨ p.2 ≠ none := by
        by_cases hp2 : p.2 = none
        · left
          obtain ⟨r, hr⟩ := getP_some hg'
          have hr2 := hr
          rw [hR] at hr2
          have hmem := List.mem_of_getElem? hr2
          have hall := hN r hmem
          rw [hp2] at hg'
          rw [act_of hr] at hg'
          simp only [Option.some.injEq, Prod.mk.injEq] at hg'
          obtain ⟨_, rfl⟩ := hg'
          exact List.all_eq_true.1 (List.all_eq_true.1 hall x (List.mem_of_getElem? h1)) c (List.mem_of_getElem? h2)
        · exact .inr hp2
      cases c with
      | row s us =>
        obtain ⟨n4, n5⟩ := n3
        refine ⟨n4, ?_⟩
        have := sh0 u _ n5
        simp only [shC] at this
        rw [show b + (p.1 - b) = p.1 by omega] at this
        exact this
      | _ =>
        have n3 : VR C' u _ := n3
        rcases hcn with hcn | hcn
        · exact .fro ((n3.rd0 hcn).mono (fun _ _ => rfl) fun k hk => .inr hk)
        · -- an inner row's cells are told by its cell in the root
          obtain ⟨n, q⟩ := p
          cases q with
          | none => exact absurd rfl hcn
          | some ij =>
            obtain ⟨a, a'⟩ := ij
            obtain ⟨r, hr⟩ := getP_some hg'
            have hr2 := hr
            rw [hR] at hr2
            have hall := hN r (List.mem_of_getElem? hr2)
            obtain ⟨z, hz1, hz2⟩ := getP_row hr hg'
            have h3 := List.all_eq_true.1 (List.all_eq_true.1 hall z (List.mem_of_getElem? hz1)) _ (List.mem_of_getElem? hz2)
            have h4 := List.all_eq_true.1 (List.all_eq_true.1 h3 x (List.mem_of_getElem? h1)) _ (List.mem_of_getElem? h2)
            exact .fro ((n3.rd0 h4).mono (fun _ _ => rfl) fun k hk => .inr hk)
    · rw [hR0 p hin] at hg
      have ha : Act? C p := by unfold Act?; rw [hg]; rfl
      obtain ⟨k1, k2, k3⟩ := hC.pl _ _ _ hg
      refine ⟨k1, fun h => k2 (by rw [← hio0 p hin]; exact h), fun g hgi => ?_⟩
      rw [hio0 p hin] at hgi
      obtain ⟨cs, ty, m1, m2, m3, m4⟩ := k3 g hgi
      refine ⟨cs, ty, by rw [← m1]; exact old g (hC.owned_lt ⟨p, ha, hgi⟩), fun h r hr => m2 h r (by rw [← hr]; exact (if_neg hin).symm), m3, fun i x j c h1 h2 => ?_⟩
      obtain ⟨u, n1, n2, n3⟩ := m4 i x j c h1 h2
      exact ⟨u, n1, n2, n3.ext e1⟩
  · intro p q g hp hq h1 h2
    by_cases a : b ≤ p.1 ∧ p.1 < b + rs.length
    · rw [hio1 p a] at h1
      by_cases c : b ≤ q.1 ∧ q.1 < b + rs.length
      · rw [hio1 q c] at h2
        have := hS.inj _ _ g (actn p a hp) (actn q c hq) h1 h2
        simp only [Prod.mk.injEq] at this
        obtain ⟨p1, p2⟩ := p
        obtain ⟨q1, q2⟩ := q
        simp only at this a c ⊢
        rw [this.2, show p1 = q1 by omega]
      · rw [hio0 q c] at h2
        have h3 := hO g ⟨_, actn p a hp, h1⟩
        have h4 := hC.owned_lt ⟨q, acto q c hq, h2⟩
        omega
    · rw [hio0 p a] at h1
      by_cases c : b ≤ q.1 ∧ q.1 < b + rs.length
      · rw [hio1 q c] at h2
        have h3 := hO g ⟨_, actn q c hq, h2⟩
        have h4 := hC.owned_lt ⟨p, acto p a hp, h1⟩
        omega
      · rw [hio0 q c] at h2
        exact hC.inj p q g (acto p a hp) (acto q c hq) h1 h2
  · intro p g hp h1 hF'
    by_cases a : b ≤ p.1 ∧ p.1 < b + rs.length
    · rw [hio1 p a] at h1
      rcases hF' with h | h
      · have h3 := hO g ⟨_, actn p a hp, h1⟩
        have h4 := hC.lt g h
        omega
      · exact hS.own _ g (actn p a hp) h1 h
    · rw [hio0 p a] at h1
      have h4 := hC.owned_lt ⟨p, acto p a hp, h1⟩
      rcases hF' with h | h
      · exact hC.own p g (acto p a hp) h1 h
      · have := hF g h; omega
  · intro k hk
    rcases hk with h | h
    · exact Nat.lt_of_lt_of_le (hC.lt k h) hB.size
    · exact hS.lt k h
  · intro n r hr
    by_cases a : b ≤ n ∧ n < b + rs.length
    · exact .inr a
    · have hr' : C.R n = some r := by
        have : (callCx C C' b rs.length).R n = C.R n := if_neg a
        rw [← this]; exact hr
      exact .inl (hC.nm n r hr')
  · rintro k ⟨p, hp, hi⟩
    by_cases a : b ≤ p.1 ∧ p.1 < b + rs.length
    · rw [hio1 p a] at hi
      exact .inr (hO k ⟨_, actn p a hp, hi⟩)
    · rw [hio0 p a] at hi
      exact .inl ⟨p, acto p a hp, hi⟩
  · rw [applyF_news rs b C.R hnone]
    funext n
    simp only [callCx]
    by_cases a : b ≤ n ∧ n < b + rs.length
    · rw [if_pos a, if_pos a, hR]
    · rw [if_neg a, if_neg a]
end Go.Ev
namespace Go.Ev
open Go Go.RowKit

/-- Other names. -/
def rnC (ρ : Nat → Nat) : V → V
  | .ref p off len => .ref (ρ p.1, p.2) off len
  | .ptr p i j => .ptr (ρ p.1, p.2) i j
  | x => x
def rnA (ρ : Nat → Nat) : V → V
  | .agg cs => .agg (cs.map (rnC ρ))
  | .clo f cs => .clo f (cs.map (rnC ρ))
  | x => rnC ρ x
def rnV (ρ : Nat → Nat) : V → V
  | .tup cs => .tup (cs.map (rnA ρ))
  | x => rnA ρ x

/-- What may stand in a cell, the names below a bound; pu: nothing frozen. -/
def okC (pu : Bool) (bd : Nat) : V → Bool
  | .any => true
  | .val _ => true
  | .list .. => !pu
  | .ept .. => !pu
  | .ref p _ _ => decide (p.1 < bd)
  | .ptr p _ _ => decide (p.1 < bd)
  | .row _ xs => xs.all (·.all fun c => match c with | .any => true | .val _ => true | .list .. => !pu | .ept .. => !pu | _ => false)
  | _ => false
def okA (pu : Bool) (bd : Nat) : V → Bool
  | .agg cs => cs.all (okC pu bd)
  | .clo _ cs => cs.all (okC pu bd)
  | x => okC pu bd x
def okV (pu : Bool) (bd : Nat) : V → Bool
  | .tup cs => cs.all (okA pu bd)
  | x => okA pu bd x

def renCx (C : Cx) (ρ : Nat → Nat) (R' : Rs) (bd : Nat) (F' : Nat → Prop) : Cx where
  w := C.w
  F := F'
  io := fun p => C.io (ρ p.1, p.2)
  R := R'
  A := fun n => n < bd

/-- The roots are those under other names. -/
def RenR (C : Cx) (ρ : Nat → Nat) (R' : Rs) (bd : Nat) (pu : Bool) : Prop :=
  ∀ n r', R' n = some r' → n < bd ∧ ∃ r, C.R (ρ n) = some r ∧ r.ty = r'.ty ∧ r.sz = r'.sz ∧ r.els = r'.els.map (·.map (rnC ρ)) ∧ r'.els.all (·.all (okC pu bd)) = true

theorem rnC_row {ρ : Nat → Nat} {c : V} {s : Nat} {zs} (h : rnC ρ c = .row s zs) : c = .row s zs := by
  cases c <;> simp [rnC] at h ⊢ <;> exact h

section
variable {C : Cx} {ρ : Nat → Nat} {R' : Rs} {bd : Nat} {pu : Bool} {F' : Nat → Prop}

theorem ren_getP (h : RenR C ρ R' bd pu) {p : Pl} {sz : Nat} {xs : List (List V)} (hp : getP R' p = some (sz, xs)) :
    ∃ xs0, getP C.R (ρ p.1, p.2) = some (sz, xs0) ∧ xs0.length = xs.length ∧ (p.2 = none → xs0 = xs.map (·.map (rnC ρ)) ∧ xs.all (·.all (okC pu bd)) = true) ∧ (p.2 ≠ none → xs0 = xs ∧ xs.all (·.all fun c => match c with | .any => true | .val _ => true | .list .. => !pu | .ept .. => !pu | _ => false) = true) := by
  obtain ⟨n, q⟩ := p
  obtain ⟨r', hr'⟩ := getP_some hp
  obtain ⟨hn, r, h1, h2, h3, h4, h5⟩ := h n r' hr'
  cases q with
  | none =>
    rw [act_of hr'] at hp
    simp only [Option.some.injEq, Prod.mk.injEq] at hp
    obtain ⟨rfl, rfl⟩ := hp
    exact ⟨r.els, by rw [act_of h1, h3], by rw [h4]; simp, fun _ => ⟨h4, h5⟩, fun h => absurd rfl h⟩
  | some ij =>
    obtain ⟨i, j⟩ := ij
    obtain ⟨x, k1, k2⟩ := getP_row hr' hp
    have e1 : r.els[i]? = some (x.map (rnC ρ)) := by rw [h4, List.getElem?_map, k1]; rfl
    have e2 : (x.map (rnC ρ))[j]? = some (.row sz xs) := by rw [List.getElem?_map, k2]; rfl
    refine ⟨xs, getP_cell h1 e1 e2, rfl, fun h => by simp at h, fun _ => ⟨rfl, ?_⟩⟩
    exact List.all_eq_true.1 (List.all_eq_true.1 h5 x (List.mem_of_getElem? k1)) _ (List.mem_of_getElem? k2)

theorem ren_C (h : RenR C ρ R' bd pu) (hF : (∀ b, F' b → C.F b) ∧ (pu = false → F' = C.F)) {v : Value} {c : V} (hv : VR C v (rnC ρ c)) (hc : okC pu bd c = true) : VR (renCx C ρ R' bd F') v c := by
  cases c with
  | any => exact .fro (.any v)
  | val u =>
    have : v = u := VR.val_inv (C := C) hv
    subst this
    exact .fro (.val v)
  | list sz xs =>
    have hp : pu = false := by simpa [okC] using hc
    have := hF.2 hp
    subst this
    exact .fro (VR.list_inv (C := C) hv)
  | ept x j =>
    have hp : pu = false := by simpa [okC] using hc
    have := hF.2 hp
    subst this
    exact .fro (VR.ept_inv (C := C) hv)
  | ref p off len =>
    obtain ⟨a, cap, rfl, hA, hs⟩ := VR.ref_inv (C := C) hv
    refine .ref (by simpa [okC, renCx] using hc) (fun sz xs hp => ?_)
    obtain ⟨xs0, k1, k2, _, _⟩ := ren_getP h hp
    obtain ⟨o1, o2, o3, o4, o5⟩ := hs _ _ k1
    exact ⟨by omega, o2, o3, o4, o5⟩
  | ptr p i j =>
    obtain ⟨ad, rfl, hA, hs⟩ := VR.ptr_inv (C := C) hv
    refine .ptr (by simpa [okC, renCx] using hc) (fun sz xs hp => ?_)
    obtain ⟨xs0, k1, k2, _, _⟩ := ren_getP h hp
    exact hs _ _ k1
  | row s zs => exact (VR.not_row (C := C) hv).elim
  | agg cs => simp [okC] at hc
  | tup cs => simp [okC] at hc
  | clo f cs => simp [okC] at hc

theorem ren_A (h : RenR C ρ R' bd pu) (hF : (∀ b, F' b → C.F b) ∧ (pu = false → F' = C.F)) {v : Value} {c : V} (hv : VR C v (rnA ρ c)) (hc : okA pu bd c = true) : VR (renCx C ρ R' bd F') v c := by
  cases c with
  | agg cs =>
    obtain ⟨vs, rfl, h1, h2⟩ := VR.agg_inv (C := C) hv
    refine .agg (by simpa using h1) (fun i u d h3 h4 => ren_C h hF (h2 i u (rnC ρ d) h3 (by rw [List.getElem?_map, h4]; rfl)) ?_)
    exact List.all_eq_true.1 hc d (List.mem_of_getElem? h4)
  | clo f cs =>
    obtain ⟨vs, rfl, h1, h2⟩ := VR.clo_inv (C := C) hv
    refine .clo (by simpa using h1) (fun i u d h3 h4 => ren_C h hF (h2 i u (rnC ρ d) h3 (by rw [List.getElem?_map, h4]; rfl)) ?_)
    exact List.all_eq_true.1 hc d (List.mem_of_getElem? h4)
  | _ => exact ren_C h hF hv hc

theorem ren_V (h : RenR C ρ R' bd pu) (hF : (∀ b, F' b → C.F b) ∧ (pu = false → F' = C.F)) {v : Value} {c : V} (hv : VR C v (rnV ρ c)) (hc : okV pu bd c = true) : VR (renCx C ρ R' bd F') v c := by
  cases c with
  | tup cs =>
    obtain ⟨vs, rfl, h1, h2⟩ := VR.tup_inv (C := C) hv
    refine .tup (by simpa using h1) (fun i u d h3 h4 => ren_A h hF (h2 i u (rnA ρ d) h3 (by rw [List.getElem?_map, h4]; rfl)) ?_)
    exact List.all_eq_true.1 hc d (List.mem_of_getElem? h4)
  | _ => exact ren_A h hF hv hc

theorem ren_act (h : RenR C ρ R' bd pu) {p : Pl} (ha : Act? (renCx C ρ R' bd F') p) : Act? C (ρ p.1, p.2) := by
  obtain ⟨⟨sz, xs⟩, e⟩ := Option.isSome_iff_exists.1 ha
  obtain ⟨xs0, k1, _⟩ := ren_getP h e
  unfold Act?; rw [k1]; rfl

theorem ren_sat (hC : Sat C) (h : RenR C ρ R' bd pu) (hinj : ∀ n m r r', R' n = some r → R' m = some r' → ρ n = ρ m → n = m) (hF : (∀ b, F' b → C.F b) ∧ (pu = false → F' = C.F)) :
    Sat (renCx C ρ R' bd F') ∧ ∀ b, Owned (renCx C ρ R' bd F') b → Owned C b := by
  refine ⟨⟨fun p sz xs hp => ?_, fun p q g hp hq h1 h2 => ?_, fun p g hp h1 hf => hC.own _ g (ren_act h hp) h1 (hF.1 g hf), fun b hb => hC.lt b (hF.1 b hb), fun n r hr => (h n r hr).1⟩, ?_⟩
  · obtain ⟨xs0, k1, k2, k3, k4⟩ := ren_getP h hp
    obtain ⟨m1, m2, m3⟩ := hC.pl _ _ _ k1
    have hp' : getP R' p = some (sz, xs) := hp
    refine ⟨fun x hx => ?_, fun h => by have := m2 h; rw [this] at k2; exact List.eq_nil_of_length_eq_zero k2.symm, fun g hg => ?_⟩
    · by_cases hn : p.2 = none
      · have := m1 (x.map (rnC ρ)) (by rw [(k3 hn).1]; exact List.mem_map.2 ⟨x, hx, rfl⟩)
        simpa using this
      · exact m1 x (by rw [(k4 hn).1]; exact hx)
    · obtain ⟨cs, ty, n1, n2, n3, n4⟩ := m3 g hg
      refine ⟨cs, ty, n1, fun hn r hr => ?_, by rw [← k2]; exact n3, fun i x j c hi hj => ?_⟩
      · obtain ⟨_, r0, q1, q2, _⟩ := h _ r hr
        rw [← q2]; exact n2 hn r0 q1
      · by_cases hn : p.2 = none
        · obtain ⟨e1, e2⟩ := k3 hn
          have hok := List.all_eq_true.1 (List.all_eq_true.1 e2 x (List.mem_of_getElem? hi)) c (List.mem_of_getElem? hj)
          obtain ⟨v, q1, q2, q3⟩ := n4 i (x.map (rnC ρ)) j (rnC ρ c) (by rw [e1, List.getElem?_map, hi]; rfl) (by rw [List.getElem?_map, hj]; rfl)
          refine ⟨v, q1, q2, ?_⟩
          cases c with
          | row s zs =>
            obtain ⟨q4, q5⟩ := q3
            refine ⟨hn, ?_⟩
            have hr0 : ∃ r, R' p.1 = some r := getP_some hp'
            obtain ⟨r, hr0⟩ := hr0
            exact ren_C h hF (c := .ref (p.1, some (i, j)) 0 zs.length) q5 (by simp only [okC, decide_eq_true_eq]; exact (h _ r hr0).1)
          | ref p' off len => exact ren_C h hF (c := .ref p' off len) q3 hok
          | ptr p' i' j' => exact ren_C h hF (c := .ptr p' i' j') q3 hok
          | any => exact ren_C h hF (c := .any) q3 hok
          | val u => exact ren_C h hF (c := .val u) q3 hok
          | list a b' => exact ren_C h hF (c := .list a b') q3 hok
          | ept a b' => exact ren_C h hF (c := .ept a b') q3 hok
          | agg a => simp [okC] at hok
          | tup a => simp [okC] at hok
          | clo a b' => simp [okC] at hok
        · obtain ⟨e1, e2⟩ := k4 hn
          subst e1
          have hok := List.all_eq_true.1 (List.all_eq_true.1 e2 x (List.mem_of_getElem? hi)) c (List.mem_of_getElem? hj)
          obtain ⟨v, q1, q2, q3⟩ := n4 i x j c hi hj
          refine ⟨v, q1, q2, ?_⟩
          cases c with
          | any => exact ren_C h hF (c := .any) q3 rfl
          | val u => exact ren_C h hF (c := .val u) q3 rfl
          | list a b' => exact ren_C h hF (c := .list a b') q3 hok
          | ept a b' => exact ren_C h hF (c := .ept a b') q3 hok
          | _ => simp at hok
  · have := hC.inj _ _ g (ren_act h hp) (ren_act h hq) h1 h2
    simp only [Prod.mk.injEq] at this
    obtain ⟨r, hr⟩ := getP_some (Option.isSome_iff_exists.1 hp).choose_spec
    obtain ⟨r', hr'⟩ := getP_some (Option.isSome_iff_exists.1 hq).choose_spec
    have e := hinj _ _ r r' hr hr' this.1
    obtain ⟨p1, p2⟩ := p
    obtain ⟨q1, q2⟩ := q
    simp only at e this ⊢
    rw [e, this.2]
  · rintro b ⟨p, hp, hi⟩
    exact ⟨_, ren_act h hp, hi⟩
end
end Go.Ev
namespace Go.Ev
open Go Go.RowKit
variable {P : Program} {C : Cx} {b : Nat}

/-- A contract by reference: the roots handed in are named 0, 1, ..; what they are afterwards, new ones behind them. -/
def GoodR (P : Program) (f : FuncId) (args : List V) (rs : List Root) (v : V) (rs' : List (Option Root)) : Prop :=
  Callable P f ∧ rs.length ≤ rs'.length ∧ okV false rs'.length v = true ∧ (∀ i r, rs'.getD i none = some r → r.els.all (·.all (okC false rs'.length)) = true) ∧
  ∀ (C : Cx) (vals : Array Value), Sat C → (C.R = fun n => rs[n]?) → (∀ n, C.A n → n < rs.length) → vals.size = args.length → (∀ (i : Nat) v x, vals[i]? = some v → args[i]? = some x → VR C v x) →
    Calls P f vals C.w fun e w' => ∃ v' C', e = .returned v' ∧ C'.w = w' ∧ Sat C' ∧ Ext C C' ∧ Fr C C' ∧ (C'.R = fun n => rs'.getD n none) ∧ VR C' v' v ∧ ∀ n, C'.A n → n < rs'.length

/-- Fewer roots, more that is frozen. -/
def prCx (C : Cx) (D : Nat → Prop) [DecidablePred D] (F' : Nat → Prop) : Cx := { C with R := fun n => if D n then C.R n else none, F := F' }

theorem pr_getP {D : Nat → Prop} [DecidablePred D] {F' : Nat → Prop} {p : Pl} {x} (h : getP (prCx C D F').R p = some x) : D p.1 ∧ getP C.R p = some x := by
  obtain ⟨r, hr⟩ := getP_some h
  have hr' := hr
  simp only [prCx] at hr'
  by_cases hd : D p.1
  · rw [if_pos hd] at hr'
    exact ⟨hd, by rw [← h]; exact getP_congr (hr'.trans hr.symm)⟩
  · rw [if_neg hd] at hr'; cases hr'

theorem pr_ok (hC : Sat C) (D : Nat → Prop) [DecidablePred D] (F' : Nat → Prop) (h1 : ∀ k, C.F k → F' k) (h2 : ∀ k, F' k → k < C.w.heap.size) (h3 : ∀ p g, D p.1 → Act? C p → C.io p = some g → ¬ F' g) :
    Sat (prCx C D F') ∧ Ext C (prCx C D F') ∧ ∀ k, Owned (prCx C D F') k → ∃ p, D p.1 ∧ Act? C p ∧ C.io p = some k := by
  have act : ∀ p, Act? (prCx C D F') p → D p.1 ∧ Act? C p := fun p hp => by
    obtain ⟨x, e⟩ := Option.isSome_iff_exists.1 hp
    obtain ⟨k1, k2⟩ := pr_getP e
    exact ⟨k1, by unfold Act?; rw [k2]; rfl⟩
  have he : Ext C (prCx C D F') := ⟨fun _ _ => rfl, h1, fun _ h => h, fun p _ sz xs hp => ⟨xs, (pr_getP hp).2, Nat.le_refl _, rfl, fun g _ cs ty h => ⟨cs, h, rfl⟩⟩⟩
  refine ⟨⟨fun p sz xs hp => ?_, fun p q g hp hq => hC.inj p q g (act p hp).2 (act q hq).2, fun p g hp hi => h3 p g (act p hp).1 (act p hp).2 hi, h2, fun n r hr => ?_⟩, he, ?_⟩
  · obtain ⟨k0, k⟩ := pr_getP hp
    obtain ⟨k1, k2, k3⟩ := hC.pl p sz xs k
    refine ⟨k1, k2, fun g hg => ?_⟩
    obtain ⟨cs, ty, m1, m2, m3, m4⟩ := k3 g hg
    refine ⟨cs, ty, m1, fun hn r hr => m2 hn r (by simp only [prCx] at hr; rw [if_pos k0] at hr; exact hr), m3, fun i x j c e1 e2 => ?_⟩
    obtain ⟨v, n1, n2, n3⟩ := m4 i x j c e1 e2
    exact ⟨v, n1, n2, n3.ext he⟩
  · simp only [prCx] at hr
    split at hr
    · exact hC.nm n r hr
    · cases hr
  · rintro k ⟨p, hp, hi⟩
    exact ⟨p, (act p hp).1, (act p hp).2, hi⟩

inductive ArgR (R : Rs) (ns zs : List Nat) : List V → List V → Prop
  | nil : ArgR R ns zs [] []
  | ren {x y : V} {xs ys : List V} (h : x = rnV (fun k => ns.getD k 0) y) (ok : okV false ns.length y = true) (k : ArgR R ns zs xs ys) : ArgR R ns zs (x :: xs) (y :: ys)
  | frz {x y : V} {xs ys : List V} (h : Frz (fun n => if n ∈ zs then R n else none) x y) (k : ArgR R ns zs xs ys) : ArgR R ns zs (x :: xs) (y :: ys)

theorem ArgR.spec {R : Rs} {ns zs : List Nat} {xs ys : List V} (h : ArgR R ns zs xs ys) : xs.length = ys.length ∧ ∀ (i : Nat) y, ys[i]? = some y → ∃ x, xs[i]? = some x ∧ ((x = rnV (fun k => ns.getD k 0) y ∧ okV false ns.length y = true) ∨ Frz (fun n => if n ∈ zs then R n else none) x y) := by
  induction h with
  | nil => exact ⟨rfl, fun i y h => by simp at h⟩
  | ren h ok k ih =>
    refine ⟨by simp [ih.1], fun i y hy => ?_⟩
    cases i with
    | zero => simp only [List.getElem?_cons_zero, Option.some.injEq] at hy; subst hy; exact ⟨_, rfl, .inl ⟨h, ok⟩⟩
    | succ i => exact ih.2 i y (by simpa using hy)
  | frz h k ih =>
    refine ⟨by simp [ih.1], fun i y hy => ?_⟩
    cases i with
    | zero => simp only [List.getElem?_cons_zero, Option.some.injEq] at hy; subst hy; exact ⟨_, rfl, .inr h⟩
    | succ i => exact ih.2 i y (by simpa using hy)

/-- The callee's names in the caller. -/
def upN (ns : List Nat) (b i : Nat) : Nat := if i < ns.length then ns.getD i 0 else b + (i - ns.length)
def rnR (ρ : Nat → Nat) (r : Root) : Root := { r with els := r.els.map (·.map (rnC ρ)) }
def newR (ρ : Nat → Nat) : Nat → List (Option Root) → List (Nat × Option Root)
  | _, [] => []
  | i, r :: rs => (ρ i, r.map (rnR ρ)) :: newR ρ (i + 1) rs
def wrR (ns zs : List Nat) (b : Nat) (rs' : List (Option Root)) : List (Nat × Option Root) := zs.map (fun z => (z, none)) ++ newR (upN ns b) 0 rs'

theorem applyF_append : ∀ (w1 w2 : List (Nat × Option Root)) (R : Rs), applyF R (w1 ++ w2) = applyF (applyF R w1) w2
  | [], w2, R => rfl
  | (n, x) :: w1, w2, R => by simp only [List.cons_append, applyF]; exact applyF_append w1 w2 _

theorem applyF_none : ∀ (zs : List Nat) (R : Rs) (n : Nat), applyF R (zs.map fun z => (z, none)) n = if n ∈ zs then none else R n
  | [], R, n => by simp [applyF]
  | z :: zs, R, n => by
    simp only [List.map_cons, applyF]
    rw [applyF_none zs]
    by_cases h : n ∈ zs
    · rw [if_pos h, if_pos (by simp [h])]
    · rw [if_neg h]
      by_cases e : n = z
      · rw [if_pos e, if_pos (by simp [e])]
      · rw [if_neg e, if_neg (by simp [e, h])]

theorem applyF_newR {ρ : Nat → Nat} : ∀ (rs : List (Option Root)) (i : Nat) (R : Rs), (∀ j k, i ≤ j → i ≤ k → j < i + rs.length → k < i + rs.length → ρ j = ρ k → j = k) →
    (∀ k, k < rs.length → applyF R (newR ρ i rs) (ρ (i + k)) = (rs.getD k none).map (rnR ρ)) ∧ ∀ n, (∀ k, k < rs.length → ρ (i + k) ≠ n) → applyF R (newR ρ i rs) n = R n
  | [], i, R, _ => ⟨fun k h => by simp at h, fun n _ => rfl⟩
  | r :: rs, i, R, hinj => by
    have ih := fun R' => applyF_newR rs (i + 1) R' (fun j k h1 h2 h3 h4 => hinj j k (by omega) (by omega) (by simp only [List.length_cons]; omega) (by simp only [List.length_cons]; omega))
    refine ⟨fun k hk => ?_, fun n hn => ?_⟩
    · simp only [newR, applyF]
      cases k with
      | zero =>
        rw [(ih _).2 (ρ (i + 0)) (fun k hk' e => by
          have := hinj (i + 1 + k) (i + 0) (by omega) (by omega) (by simp only [List.length_cons]; omega) (by simp only [List.length_cons]; omega) e
          omega)]
        simp
      | succ k =>
        have := (ih (fun m => if m = ρ i then r.map (rnR ρ) else R m)).1 k (by simpa using hk)
        rw [show i + 1 + k = i + (k + 1) by omega] at this
        rw [this]
        simp
    · simp only [newR, applyF]
      rw [(ih _).2 n (fun k hk e => hn (k + 1) (by simp only [List.length_cons]; omega) (by rw [← e]; congr 1; omega))]
      rw [if_neg (fun e => hn 0 (by simp) (by rw [e]; rfl))]
end Go.Ev
