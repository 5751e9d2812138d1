/- Part 8 of the proof: the evaluator and the contracts of functions. -/
import Derived.Below
import Derived.ChangeArms
import Derived.ChangeOld
import Derived.DataReads
import Derived.KernelRfl
import Derived.Laws.AppendOwn
import Derived.Laws.BytesArg
import Derived.Laws.BytesString
import Derived.Laws.CopyRow
import Derived.Laws.Entries
import Derived.Laws.IdiomCopy
import Derived.Laws.MakeOwn
import Derived.Laws.OwnMore
import Derived.OpenShut
import Derived.Orders
import Derived.Test.YtmkcbbbknbahgaaProg
import Derived.Test.YtmkcbbbknbahgaaEvDd7
set_option linter.unusedVariables false
set_option linter.unusedSimpArgs false
namespace Go.Ev
open Go Go.RowKit Go.Proofs

theorem mh {p : Prop} (h : p := by first | assumption | omega | rfl | decide | (simp; done)) : p := h
theorem mbq {p : Prop} (h : p := by simp only [Nat.reduceAdd, Nat.reduceMul] <;> rfl) : p := h
theorem eq_of_bneF {α : Type} [BEq α] [LawfulBEq α] {a b : α} (h : (a != b) = false) : a = b := by simpa using h
theorem mbn {p : Prop} (h : p := by simp only [bndV, Option.map_some, Option.map_none, En_nt, lookO, lookT, Nat.reduceEqDiff, Nat.reduceLT, ↓reduceIte] <;> rfl) : p := h
abbrev cI (n : Int) : List V := [vi n]
abbrev cBo (b : Bool) : List V := [vb b]
theorem all_step {α : Type} {p : α → Bool} {l : List α} {i : Nat} {d : α} (ht : (l.take i).all p = true) (h : p (l.getD i d) = true) (hi : i < l.length) : (l.take (i + 1)).all p = true := by
  rw [List.take_succ_eq_append_getElem hi, List.all_append, ht]
  have e : l.getD i d = l[i] := by simp [List.getD_eq_getElem?_getD, hi]
  rw [e] at h
  simp only [List.all_cons, List.all_nil, Bool.and_true, Bool.true_and, h]
/-- A stretch of a list. -/
def cutL {α : Type} (l : List α) (off k : Nat) : List α := (l.drop off).take k

theorem els_ref {α : Type} {g : α → List V} {zs : List α} {R : Rs} {n ty sz k : Nat} (h : R n = some ⟨ty, sz, zs.map g⟩) (hk : k = zs.length) : elsOf R (.ref (n, none) 0 k) = some (sz, zs.map g) := by
  simp only [elsOf, act_of h, Option.map_some]
  rw [cut_all (by rw [hk, List.length_map])]

theorem cut_mapL {α : Type} {g : α → List V} {zs : List α} {off k : Nat} : cut (zs.map g) off k = (cutL zs off k).map g := by
  rw [cut_eq, cutL, List.map_take, List.map_drop]

theorem els_cut {α : Type} {g : α → List V} {zs : List α} {R : Rs} {n ty sz off k : Nat} (h : R n = some ⟨ty, sz, zs.map g⟩) : elsOf R (.ref (n, none) off k) = some (sz, (cutL zs off k).map g) := by
  simp only [elsOf, act_of h, Option.map_some, cut_mapL]

theorem els_row {α β : Type} {g : α → List V} {f : β → List V} {zs : List α} {ys : List β} {R : Rs} {n ty sz s i j off k : Nat} (d : α) (h : R n = some ⟨ty, sz, zs.map g⟩) (hi : i < zs.length) (hx : (g (zs.getD i d)).getD j .any = .row s (ys.map f)) : elsOf R (.ref (n, some (i, j)) off k) = some (s, (cutL ys off k).map f) := by
  simp only [elsOf, getP_map d h hi hx, Option.map_some, cut_mapL]

theorem all_mapR {α : Type} {g : α → List V} {p : V → Bool} {zs : List α} (h : ∀ a, (g a).all p = true) : (zs.map g).all (·.all p) = true := by
  refine List.all_eq_true.2 fun x hx => ?_
  obtain ⟨a, _, rfl⟩ := List.mem_map.1 hx
  exact h a

section rules
variable {E : Env} {C0 : Cx} {T : List (Nat × V)} {R : List (Nat × Root)} {ops : Array Oper} {base i bi : Nat} {o : Oper} {l : List Oper} {T1 : List (Nat × V)} {R1 : List (Nat × Root)} {v : V}
variable {Kd : List (Nat × V) → List (Nat × Root) → List Lg → Prop}

/-- A list's part. -/
theorem dr_sl {α : Type} {g : α → List V} {t : TypeId} {x : Operand} {lo hi : Option Operand} {sz : Nat} {ys : List α} {a c : Int} {na nc : Nat} (hw : WantOK E.nt ops o (lookT T) true) (ho : o.op = .slice t x lo hi none) (hb : base + 8 * i = bi) (hx : lookO E.nt (lookT T) x = .list sz (ys.map g))
    (hlo : bndV (lo.map (lookO E.nt (lookT T))) 0 = some a) (hhi : bndV (hi.map (lookO E.nt (lookT T))) ys.length = some c) (hs : slT E.tab t ∧ sz = (E.tab (E.tab t).elem).sz) (h01 : 0 ≤ a ∧ a ≤ c ∧ c ≤ ys.length) (hn : na = a.toNat ∧ nc = c.toNat) (hT : putT T o.dst (.list sz (((ys.drop na).take (nc - na)).map g)) = T1)
    (hk : Dr E ops base (i + 1) l (fun T' R' lg => Kd T' R' ((opNames (lookO E.nt (lookT T)) o.op, []) :: lg)) T1 R) : Dr E ops base i (o :: l) Kd T R := by
  refine dr_act hw hb (c := slT E.tab t ∧ (sz = (E.tab (E.tab t).elem).sz ∧ 0 ≤ a ∧ a ≤ c ∧ c ≤ (ys.map g).length)) (v := .list sz (((ys.map g).drop a.toNat).take (c.toNat - a.toNat))) (wr := []) (by rw [ho]; simp only [act, hx, sliceV, List.length_map, Option.some_or, hlo, hhi, grd, Option.map_some]) ⟨hs.1, hs.2, h01.1, h01.2.1, by rw [List.length_map]; exact h01.2.2⟩ ?_ rfl hk
  rw [← List.map_drop, ← List.map_take, ← hn.1, ← hn.2]; exact hT

/-- A part of own memory. -/
theorem dr_slo {t : TypeId} {x : Operand} {lo hi : Option Operand} {p : Pl} {off len sz off' len' : Nat} {xs : List (List V)} {a c : Int} (hw : WantOK E.nt ops o (lookT T) true) (ho : o.op = .slice t x lo hi none) (hb : base + 8 * i = bi) (hx : lookO E.nt (lookT T) x = .ref p off len) (hp : getP (lookR R) p = some (sz, xs))
    (hlo : bndV (lo.map (lookO E.nt (lookT T))) 0 = some a) (hhi : bndV (hi.map (lookO E.nt (lookT T))) len = some c) (hs : slT E.tab t ∧ sz = (E.tab (E.tab t).elem).sz) (h01 : 0 ≤ a ∧ a ≤ c ∧ c ≤ len) (hn : off' = off + a.toNat ∧ len' = c.toNat - a.toNat) (hT : putT T o.dst (.ref p off' len') = T1)
    (hk : Dr E ops base (i + 1) l (fun T' R' lg => Kd T' R' ((opNames (lookO E.nt (lookT T)) o.op, []) :: lg)) T1 R) : Dr E ops base i (o :: l) Kd T R :=
  dr_slp hw ho hb hx hp hlo hhi hs h01 (by rw [hn.1, hn.2]) hT hk

/-- A new slice of zeros. -/
theorem dr_mk {α : Type} (g : α → List V) (z : α) {t : TypeId} {x y : Operand} {k1 k2 : IntKind} {n : Int} {nn : Nat} (hw : WantOK E.nt ops o (lookT T) true) (ho : o.op = .makeSlice t x y) (hb : base + 8 * i = bi) (hx : lookO E.nt (lookT T) x = .val (.int k1 n) ∧ lookO E.nt (lookT T) y = .val (.int k2 n))
    (hs : slT E.tab t ∧ (E.tab (E.tab t).elem).zero.all (·.oneCell') = true) (hn : 0 ≤ n ∧ n ≤ 1048576 ∧ nn = n.toNat) (hby : (E.tab (E.tab t).elem).bytes ≤ 1024) (hz : (E.tab (E.tab t).elem).zero.map .val = g z) (hT : putT T o.dst (.ref (bi, none) 0 nn) = T1)
    (hR : applyW R [(bi, some ⟨(E.tab t).elem, (E.tab (E.tab t).elem).sz, (List.replicate nn z).map g⟩)] = R1)
    (hk : Dr E ops base (i + 1) l (fun T' R' lg => Kd T' R' ((opNames (lookO E.nt (lookT T)) o.op, [(bi, some ⟨(E.tab t).elem, (E.tab (E.tab t).elem).sz, (List.replicate nn z).map g⟩)]) :: lg)) T1 R1) : Dr E ops base i (o :: l) Kd T R := by
  have hby' : n * ((E.tab (E.tab t).elem).bytes : Nat) ≤ 140737488355328 := by
    have h1 : n * ((E.tab (E.tab t).elem).bytes : Int) ≤ n * 1024 := Int.mul_le_mul_of_nonneg_left (by omega) hn.1
    omega
  refine dr_act hw hb (c := slT E.tab t ∧ ((n = n ∧ 0 ≤ n ∧ n * ((E.tab (E.tab t).elem).bytes : Nat) ≤ 140737488355328 ∧ n ≤ 140737488355328) ∧ (E.tab (E.tab t).elem).zero.length = (E.tab (E.tab t).elem).sz ∧ (E.tab (E.tab t).elem).zero.all (·.oneCell') = true)) (v := .ref (bi, none) 0 nn)
    (wr := [(bi, some ⟨(E.tab t).elem, (E.tab (E.tab t).elem).sz, (List.replicate nn z).map g⟩)]) ?_ ⟨hs.1, ⟨rfl, hn.1, hby', by omega⟩, hs.1.2.2.2, hs.2⟩ hT hR hk
  rw [ho]
  simp only [act, hx.1, hx.2, makeV, grd, Option.map_some, hz, List.map_replicate, ← hn.2.2]

/-- Elements behind own memory. -/
theorem dr_app {α : Type} {g : α → List V} (ys zs : List α) {s x : Operand} {t u : TypeId} {n len ty sz : Nat} {X : V} (hw : WantOK E.nt ops o (lookT T) true) (ho : o.op = .call ⟨.builtin .append, #[s, x], #[t, u]⟩) (hb : base + 8 * i = bi) (hs : lookO E.nt (lookT T) s = .ref (n, none) 0 len) (hr : lookR R n = some ⟨ty, sz, ys.map g⟩) (hl : len = ys.length)
    (hx : lookO E.nt (lookT T) x = X) (he : elsOf (lookR R) X = some (sz, zs.map g)) (hS : (slT E.tab t ∧ slT E.tab u) ∧ (sz = (E.tab (E.tab t).elem).sz ∧ ty = (E.tab t).elem ∧ (E.tab (E.tab t).elem).bytes ≤ 1024) ∧ (E.tab (E.tab t).elem).hp = false) (hq : ∀ a, (g a).all notRow = true) (hbd : ys.length + zs.length ≤ 4194304)
    (hT : putT T o.dst (.ref (bi, none) 0 (ys ++ zs).length) = T1) (hR : applyW R [(n, none), (bi, some ⟨ty, sz, (ys ++ zs).map g⟩)] = R1)
    (hk : Dr E ops base (i + 1) l (fun T' R' lg => Kd T' R' ((opNames (lookO E.nt (lookT T)) o.op, [(n, none), (bi, some ⟨ty, sz, (ys ++ zs).map g⟩)]) :: lg)) T1 R1) : Dr E ops base i (o :: l) Kd T R := by
  obtain ⟨⟨h1, h2⟩, ⟨rfl, rfl, h5⟩, h6⟩ := hS
  have hby : (len + (zs.map g).length) * (E.tab (E.tab t).elem).bytes ≤ 140737488355328 := by
    rw [List.length_map, hl]
    exact Nat.le_trans (Nat.mul_le_mul hbd h5) (by decide)
  have key : ∃ c, c ∧ srcK (E.tab (E.tab t).elem) (lookR R) n X (zs.map g) = some (c, []) := by
    unfold srcK
    cases X with
    | list => exact ⟨True, trivial, rfl⟩
    | ref p off k =>
      obtain ⟨m, q⟩ := p
      cases q with
      | none =>
        cases off with
        | zero => exact ⟨_, all_mapR (zs := zs) hq, by simp only [h6]⟩
        | succ off => exact ⟨_, all_mapR (zs := zs) hq, by simp only [h6]⟩
      | some q => exact ⟨_, all_mapR (zs := zs) hq, by simp only [h6]⟩
    | _ => simp [elsOf] at he
  obtain ⟨c, hc, hk0⟩ := key
  refine dr_act hw hb (c := (slT E.tab t ∧ slT E.tab u) ∧ (((E.tab (E.tab t).elem).sz = (E.tab (E.tab t).elem).sz ∧ (E.tab t).elem = (E.tab t).elem ∧ (E.tab (E.tab t).elem).sz = (E.tab (E.tab t).elem).sz ∧ len = (ys.map g).length) ∧ (len + (zs.map g).length ≤ maxLen ∧ (len + (zs.map g).length) * (E.tab (E.tab t).elem).bytes ≤ 140737488355328) ∧ c)) (v := .ref (bi, none) 0 (ys ++ zs).length)
    (wr := [(n, none), (bi, some ⟨(E.tab t).elem, (E.tab (E.tab t).elem).sz, (ys ++ zs).map g⟩)]) ?_ ⟨⟨h1, h2⟩, ⟨rfl, rfl, rfl, by rw [List.length_map]; exact hl⟩, ⟨by rw [List.length_map, hl]; simp only [maxLen]; omega, hby⟩, hc⟩ hT hR hk
  rw [ho]
  simp only [act, callV, List.toList_toArray, appendV, hs, hx, he, hr, hk0, grd, Option.map_some, Option.some_or, wrOf, List.map_cons, List.map_nil, List.cons_append, List.nil_append, List.map_append, List.length_append, List.length_map, hl, true_and, and_true, eq_self]

/-- Own rows behind own rows. -/
theorem dr_apo {α : Type} {g : α → List V} (ys zs : List α) {s x : Operand} {t u : TypeId} {n m len k ty ty' sz : Nat} (hw : WantOK E.nt ops o (lookT T) true) (ho : o.op = .call ⟨.builtin .append, #[s, x], #[t, u]⟩) (hb : base + 8 * i = bi) (hs : lookO E.nt (lookT T) s = .ref (n, none) 0 len) (hr : lookR R n = some ⟨ty, sz, ys.map g⟩) (hl : len = ys.length)
    (hx : lookO E.nt (lookT T) x = .ref (m, none) 0 k) (hq : lookR R m = some ⟨ty', sz, zs.map g⟩) (hS : (slT E.tab t ∧ slT E.tab u) ∧ (sz = (E.tab (E.tab t).elem).sz ∧ ty = (E.tab t).elem ∧ (E.tab (E.tab t).elem).bytes ≤ 1024) ∧ (E.tab (E.tab t).elem).hp = true) (hbd : ys.length + zs.length ≤ 4194304) (hkz : k = zs.length) (hne : n ≠ m)
    (hT : putT T o.dst (.ref (bi, none) 0 (ys ++ zs).length) = T1) (hR : applyW R [(n, none), (m, none), (bi, some ⟨ty, sz, (ys ++ zs).map g⟩)] = R1)
    (hk : Dr E ops base (i + 1) l (fun T' R' lg => Kd T' R' ((opNames (lookO E.nt (lookT T)) o.op, [(n, none), (m, none), (bi, some ⟨ty, sz, (ys ++ zs).map g⟩)]) :: lg)) T1 R1) : Dr E ops base i (o :: l) Kd T R := by
  obtain ⟨⟨h1, h2⟩, ⟨rfl, rfl, h5⟩, h6⟩ := hS
  have hby : (len + (zs.map g).length) * (E.tab (E.tab t).elem).bytes ≤ 140737488355328 := by
    rw [List.length_map, hl]
    exact Nat.le_trans (Nat.mul_le_mul hbd h5) (by decide)
  have he : elsOf (lookR R) (.ref (m, none) 0 k) = some ((E.tab (E.tab t).elem).sz, zs.map g) := els_ref hq hkz
  have hk0 : srcK (E.tab (E.tab t).elem) (lookR R) n (.ref (m, none) 0 k) (zs.map g) = some (k = (zs.map g).length ∧ n ≠ m, [m]) := by
    simp only [srcK, h6, hq]
  refine dr_act hw hb (c := (slT E.tab t ∧ slT E.tab u) ∧ (((E.tab (E.tab t).elem).sz = (E.tab (E.tab t).elem).sz ∧ (E.tab t).elem = (E.tab t).elem ∧ (E.tab (E.tab t).elem).sz = (E.tab (E.tab t).elem).sz ∧ len = (ys.map g).length) ∧ (len + (zs.map g).length ≤ maxLen ∧ (len + (zs.map g).length) * (E.tab (E.tab t).elem).bytes ≤ 140737488355328) ∧ (k = (zs.map g).length ∧ n ≠ m))) (v := .ref (bi, none) 0 (ys ++ zs).length)
    (wr := [(n, none), (m, none), (bi, some ⟨(E.tab t).elem, (E.tab (E.tab t).elem).sz, (ys ++ zs).map g⟩)]) ?_ ⟨⟨h1, h2⟩, ⟨rfl, rfl, rfl, by rw [List.length_map]; exact hl⟩, ⟨by rw [List.length_map, hl]; simp only [maxLen]; omega, hby⟩, ⟨by rw [List.length_map]; exact hkz, hne⟩⟩ hT hR hk
  rw [ho]
  simp only [act, callV, List.toList_toArray, appendV, hs, hx, he, hr, hk0, grd, Option.map_some, Option.some_or, wrOf, List.map_cons, List.map_nil, List.cons_append, List.nil_append, List.map_append, List.length_append, List.length_map, hl, true_and, and_true, eq_self]

/-- Elements appended within a root. -/
theorem dr_api {α : Type} {g : α → List V} (ys zs : List α) {s x : Operand} {t u : TypeId} {n len ty sz : Nat} {X : V} (hw : WantOK E.nt ops o (lookT T) true) (ho : o.op = .call ⟨.builtin .append, #[s, x], #[t, u]⟩) (hb : base + 8 * i = bi) (hs : lookO E.nt (lookT T) s = .ref (n, none) 0 len) (hr : lookR R n = some ⟨ty, sz, ys.map g⟩)
    (hx : lookO E.nt (lookT T) x = X) (he : elsOf (lookR R) X = some (sz, zs.map g)) (hS : (slT E.tab t ∧ slT E.tab u) ∧ (sz = (E.tab (E.tab t).elem).sz ∧ ty = (E.tab t).elem ∧ sz = (E.tab (E.tab t).elem).sz ∧ (E.tab (E.tab t).elem).sz ≠ 0)) (hq : ∀ a, (g a).all notRow = true) (hbd : len + zs.length ≤ ys.length)
    (hT : putT T o.dst (.ref (n, none) 0 (len + zs.length)) = T1) (hR : applyW R [(n, some ⟨ty, sz, (ys.take len ++ zs ++ ys.drop (len + zs.length)).map g⟩)] = R1)
    (hk : Dr E ops base (i + 1) l (fun T' R' lg => Kd T' R' ((opNames (lookO E.nt (lookT T)) o.op, [(n, some ⟨ty, sz, (ys.take len ++ zs ++ ys.drop (len + zs.length)).map g⟩)]) :: lg)) T1 R1) : Dr E ops base i (o :: l) Kd T R := by
  refine dr_act2 hw hb (c := (slT E.tab t ∧ slT E.tab u) ∧ ((sz = (E.tab (E.tab t).elem).sz ∧ ty = (E.tab t).elem ∧ sz = (E.tab (E.tab t).elem).sz ∧ (E.tab (E.tab t).elem).sz ≠ 0 ∧ len + (zs.map g).length ≤ (ys.map g).length) ∧ (zs.map g).all (·.all notRow) = true)) (v := .ref (n, none) 0 (len + zs.length))
    (wr := [(n, some ⟨ty, sz, (ys.take len ++ zs ++ ys.drop (len + zs.length)).map g⟩)]) ?_ ⟨hS.1, ⟨hS.2.1, hS.2.2.1, hS.2.2.2.1, hS.2.2.2.2, by rw [List.length_map, List.length_map]; exact hbd⟩, all_mapR hq⟩ hT hR hk
  rw [ho]
  simp only [act2, call2V, List.toList_toArray, appinV, hs, hx, he, hr, grd, Option.map_some, copyL, List.length_map, show (zs.map g).take zs.length = zs.map g from List.take_of_length_le (by rw [List.length_map]; exact Nat.le_refl _), List.map_append, List.map_take, List.map_drop]

/-- Elements appended within a root, of which the rest is forgotten. -/
theorem dr_apf {α : Type} {g : α → List V} (ys zs : List α) {s x : Operand} {t u : TypeId} {n len ty sz : Nat} {X : V} (hw : WantOK E.nt ops o (lookT T) true) (ho : o.op = .call ⟨.builtin .append, #[s, x], #[t, u]⟩) (hb : base + 8 * i = bi) (hs : lookO E.nt (lookT T) s = .ref (n, none) 0 len) (hr : lookR R n = some ⟨ty, sz, ys.map g⟩)
    (hx : lookO E.nt (lookT T) x = X) (he : elsOf (lookR R) X = some (sz, zs.map g)) (hS : (slT E.tab t ∧ slT E.tab u) ∧ (sz = (E.tab (E.tab t).elem).sz ∧ ty = (E.tab t).elem ∧ sz = (E.tab (E.tab t).elem).sz ∧ (E.tab (E.tab t).elem).sz ≠ 0)) (hq : ∀ a, (g a).all notRow = true) (hbd : len + zs.length ≤ ys.length)
    (hT : putT T o.dst (.ref (bi, none) 0 (ys.take len ++ zs).length) = T1) (hR : applyW R [(n, none), (bi, some ⟨ty, sz, (ys.take len ++ zs).map g⟩)] = R1)
    (hk : Dr E ops base (i + 1) l (fun T' R' lg => Kd T' R' ((opNames (lookO E.nt (lookT T)) o.op, [(n, none), (bi, some ⟨ty, sz, (ys.take len ++ zs).map g⟩)]) :: lg)) T1 R1) : Dr E ops base i (o :: l) Kd T R := by
  have hl : (ys.take len ++ zs).length = len + (zs.map g).length := by rw [List.length_append, List.length_take, List.length_map]; omega
  have hm : (ys.take len ++ zs).map g = (ys.map g).take len ++ zs.map g := by rw [List.map_append, List.map_take]
  rw [hl] at hT
  rw [hm] at hR hk
  exact dr_actx hw hb (ActX.appf (r := ⟨ty, sz, ys.map g⟩) ho hs hr (by rw [hx]; exact he) hS.1 ⟨⟨hS.2.1, hS.2.2.1, hS.2.2.2.1, hS.2.2.2.2, by rw [List.length_map, List.length_map]; exact hbd⟩, all_mapR hq⟩) hT hR hk

/-- An element of an array. -/
theorem dr_arr {t e : TypeId} {x ix : Operand} {len k j j' z : Nat} {p : Pl} {kd : IntKind} {q : Int} (hw : WantOK E.nt ops o (lookT T) true) (ho : o.op = .indexAddr t x ix) (hb : base + 8 * i = bi) (hu : E.P.underlying t = some (.array len e)) (hz : (E.P.info? e).map (·.size) = some z) (hx : lookO E.nt (lookT T) x = .ptr p k j) (hi : lookO E.nt (lookT T) ix = .val (.int kd q)) (hq : 0 ≤ q ∧ q < len) (hj : j' = j + q.toNat * z)
    (hT : putT T o.dst (.ptr p k j') = T1) (hk : Dr E ops base (i + 1) l (fun T' R' lg => Kd T' R' ((opNames (lookO E.nt (lookT T)) o.op, []) :: lg)) T1 R) : Dr E ops base i (o :: l) Kd T R :=
  dr_actx hw hb (.arr ho hu hx hi hq hz) (by rw [← hj]; exact hT) rfl hk

/-- Elements set to zero. -/
theorem dr_clr {α : Type} {g : α → List V} (ys : List α) (z : α) {x : Operand} {t : TypeId} {n off k ty sz : Nat} (hw : WantOK E.nt ops o (lookT T) true) (ho : o.op = .call ⟨.builtin .clear, #[x], #[t]⟩) (hb : base + 8 * i = bi) (hx : lookO E.nt (lookT T) x = .ref (n, none) off k) (hr : lookR R n = some ⟨ty, sz, ys.map g⟩)
    (hS : slT E.tab t ∧ ((sz = (E.tab (E.tab t).elem).sz ∧ (E.tab (E.tab t).elem).sz ≠ 0 ∧ (E.tab (E.tab t).elem).zero.length = (E.tab (E.tab t).elem).sz ∧ (E.tab (E.tab t).elem).zero.all (·.oneCell') = true))) (hz : (E.tab (E.tab t).elem).zero.map .val = g z) (hbd : off + k ≤ ys.length)
    (hT : putT T o.dst .any = T1) (hR : applyW R [(n, some ⟨ty, sz, (ys.take off ++ List.replicate k z ++ ys.drop (off + k)).map g⟩)] = R1)
    (hk : Dr E ops base (i + 1) l (fun T' R' lg => Kd T' R' ((opNames (lookO E.nt (lookT T)) o.op, [(n, some ⟨ty, sz, (ys.take off ++ List.replicate k z ++ ys.drop (off + k)).map g⟩)]) :: lg)) T1 R1) : Dr E ops base i (o :: l) Kd T R := by
  refine dr_act2 hw hb (c := slT E.tab t ∧ ((sz = (E.tab (E.tab t).elem).sz ∧ (E.tab (E.tab t).elem).sz ≠ 0 ∧ (E.tab (E.tab t).elem).zero.length = (E.tab (E.tab t).elem).sz ∧ (E.tab (E.tab t).elem).zero.all (·.oneCell') = true) ∧ off + k ≤ (ys.map g).length)) (v := .any)
    (wr := [(n, some ⟨ty, sz, (ys.take off ++ List.replicate k z ++ ys.drop (off + k)).map g⟩)]) ?_ ⟨hS.1, hS.2, by rw [List.length_map]; exact hbd⟩ hT hR hk
  rw [ho]
  simp only [act2, call2V, List.toList_toArray, clearV, hx, hr, hz, grd, Option.map_some, copyL, List.map_append, List.map_take, List.map_drop, List.map_replicate, show (List.replicate k (g z)).take k = List.replicate k (g z) from List.take_of_length_le (by rw [List.length_replicate]; exact Nat.le_refl _)]

/-- A part of a root, behind the slice's own end too. -/
theorem dr_slx {α : Type} {g : α → List V} {ys : List α} {t : TypeId} {x lo hi : Operand} {n off len off' len' ty sz : Nat} {k1 k2 : IntKind} {a c : Int} (hw : WantOK E.nt ops o (lookT T) true) (ho : o.op = .slice t x (some lo) (some hi) none) (hb : base + 8 * i = bi) (hx : lookO E.nt (lookT T) x = .ref (n, none) off len) (hr : lookR R n = some ⟨ty, sz, ys.map g⟩)
    (h1 : lookO E.nt (lookT T) lo = .val (.int k1 a)) (h2 : lookO E.nt (lookT T) hi = .val (.int k2 c)) (hs : slT E.tab t ∧ sz = (E.tab (E.tab t).elem).sz ∧ (E.tab (E.tab t).elem).sz ≠ 0) (h01 : 0 ≤ a ∧ a ≤ c ∧ (off : Int) + c ≤ ys.length) (hn : off' = off + a.toNat ∧ len' = c.toNat - a.toNat) (hT : putT T o.dst (.ref (n, none) off' len') = T1)
    (hk : Dr E ops base (i + 1) l (fun T' R' lg => Kd T' R' ((opNames (lookO E.nt (lookT T)) o.op, []) :: lg)) T1 R) : Dr E ops base i (o :: l) Kd T R :=
  dr_act2 hw hb (c := slT E.tab t ∧ ((sz = (E.tab (E.tab t).elem).sz ∧ (E.tab (E.tab t).elem).sz ≠ 0) ∧ 0 ≤ a ∧ a ≤ c ∧ (off : Int) + c ≤ (ys.map g).length)) (v := .ref (n, none) off' len') (wr := []) (by rw [ho]; simp only [act2, slicexV, hx, h1, h2, hr, grd, Option.map_some, hn.1, hn.2]) ⟨hs.1, hs.2, h01.1, h01.2.1, by rw [List.length_map]; exact h01.2.2⟩ hT rfl hk

/-- A slice with an end of its room. -/
theorem dr_sl3 {t : TypeId} {x lo hi mx : Operand} {p : Pl} {off len : Nat} {k1 k2 k3 : IntKind} {a c m : Int} {q : Nat × List (List V)} (hw : WantOK E.nt ops o (lookT T) true) (ho : o.op = .slice t x (some lo) (some hi) (some mx)) (hb : base + 8 * i = bi) (hx : lookO E.nt (lookT T) x = .ref p off len) (hp : getP (lookR R) p = some q)
    (h1 : lookO E.nt (lookT T) lo = .val (.int k1 a)) (h2 : lookO E.nt (lookT T) hi = .val (.int k2 c)) (h3 : lookO E.nt (lookT T) mx = .val (.int k3 m)) (hs : slT E.tab t) (h01 : 0 ≤ a ∧ a ≤ c ∧ c ≤ m ∧ m ≤ len) (hT : putT T o.dst .any = T1)
    (hk : Dr E ops base (i + 1) l (fun T' R' lg => Kd T' R' ((opNames (lookO E.nt (lookT T)) o.op, []) :: lg)) T1 R) : Dr E ops base i (o :: l) Kd T R :=
  dr_act2 hw hb (c := slT E.tab t ∧ (0 ≤ a ∧ a ≤ c ∧ c ≤ m ∧ m ≤ len)) (v := .any) (wr := []) (by rw [ho]; simp only [act2, slice3V, hx, h1, h2, h3, hp, grd, Option.map_some]) ⟨hs, h01⟩ hT rfl hk
end rules

theorem ovr_one {l : List Int} {k : Nat} {b : Int} (h : k < l.length) : ovr l k [b] = l.set k b := by
  rw [List.set_eq_take_append_cons_drop, if_pos h]
  simp [ovr]

section rules
variable {E : Env} {C0 : Cx} {T : List (Nat × V)} {R : List (Nat × Root)} {ops : Array Oper} {base i bi : Nat} {o : Oper} {l : List Oper} {T1 : List (Nat × V)} {R1 : List (Nat × Root)} {v : V}
variable {Kd : List (Nat × V) → List (Nat × Root) → List Lg → Prop}
/-- A byte stored into a row of an own memory. -/
theorem dr_str {t : TypeId} {a x : Operand} {n r k : Nat} {m : List (List Int)} {b : Int} (hw : WantOK E.nt ops o (lookT T) true) (ho : o.op = .store t a x) (hb : base + 8 * i = bi) (ha : lookO E.nt (lookT T) a = .ptr (n, some (r, 0)) k 0) (hr : lookR R n = some (rM m)) (hx : lookO E.nt (lookT T) x = v8 b)
    (hz : (E.tab t).sz = 1) (hk0 : r < m.length ∧ k < (m.getD r []).length) (hT : putT T o.dst .any = T1) (hR : applyW R [(n, some (rM (wrM m r k [b])))] = R1)
    (hk : Dr E ops base (i + 1) l (fun T' R' lg => Kd T' R' ((opNames (lookO E.nt (lookT T)) o.op, [(n, some (rM (wrM m r k [b])))]) :: lg)) T1 R1) : Dr E ops base i (o :: l) Kd T R := by
  refine dr_stp (r' := rM (wrM m r k [b])) (zs := ((m.getD r []).set k b).map cB) hw ho hb ha (getRow hr hk0.1) hr hx ⟨rfl, by rw [hz]; rfl⟩ (by rw [hz]; decide) ⟨by rw [List.length_map]; exact hk0.2, by rw [hz]; decide⟩ (set_put (0 : Int) hk0.2 rfl) ?_ hT hR hk
  rw [setP_row hk0.1, wrM, ovr_one hk0.2]
end rules

theorem mV2 {p : Prop} (h : p := by simp only [En_tab, tabs, cellsAt, cellAt, ofCells, List.drop_zero, List.take_succ_cons, List.take_zero, List.drop_succ_cons, Nat.reduceAdd, List.length_map] <;> rfl) : p := h
theorem mlz {p : Prop} (h : p := by simp only [En_tab, tabs] <;> rfl) : p := h
theorem mNl {p : Prop} (h : p := by simp only [nilR, dropR, List.set_cons_zero, List.set_cons_succ, getD0, getD1, Nat.reduceEqDiff, ↓reduceIte] <;> rfl) : p := h
theorem mA {p : Prop} (h : p := by simp only [En_tab, slT, tabs] <;> decide) : p := h

/-- A nil slice in a temporary is an empty slice of a new, empty root. -/
theorem weak_nilT {E : Env} {C0 : Cx} (t ty sz : Nat) {b b' : Nat} {T T' : List (Nat × V)} {R R' : List (Nat × Root)} (ht : lookT T t = .val (.slice none 0 0)) (hT : (t, .ref (b, none) 0 0) :: T = T') (hR : (b, ⟨ty, sz, []⟩) :: R = R') (hb : b < b') : Weak E C0 ⟨T, R, b⟩ ⟨T', R', b'⟩ := by
  subst hR; subst hT
  rintro a w ⟨C, rfl, hC, hCR, hTs, hsz, hd, hF, hA⟩
  have hnb : ¬ C.A b := fun h => by
    rcases hA b h with h1 | ⟨_, h1, _⟩
    · exact absurd h1 (by show ¬ b < b; omega)
    · exact h1
  obtain ⟨S1, E1, F1⟩ := empty_ok (b := b) (ty := ty) (sz := sz) hC hnb
  refine ⟨_, ?_, S1, ?_, fun t' ht' => ?_, hsz, hd, hF.next E1 F1, fun y hy => ?_⟩
  · rfl
  · show (fun y => if y = b then some (Root.mk ty sz []) else if y ∈ [] then none else C.R y) = _
    funext y
    show _ = lookR ((b, ⟨ty, sz, []⟩) :: R) y
    rw [hCR]
    simp only [lookR]
    by_cases c1 : y = b
    · rw [if_pos c1, if_pos c1.symm]
    · rw [if_neg c1, if_neg (Ne.symm c1)]; rfl
  · show VR _ _ (lookT ((t, .ref (b, none) 0 0) :: T) t')
    simp only [lookT]
    by_cases c1 : t = t'
    · subst c1
      rw [if_pos rfl]
      exact empty_ref (ht ▸ hTs t ht')
    · rw [if_neg c1]
      exact (hTs t' ht').ext E1
  · rcases hy with h | rfl
    · rcases hA y h with h1 | ⟨_, h1, _⟩
      · exact .inl (Nat.lt_trans h1 hb)
      · exact h1.elim
    · exact .inl hb

theorem fEls {R : Rs} {n ty sz k : Nat} {els : List (List V)} (h : R n = some ⟨ty, sz, els⟩) (hk : cut els 0 k = els) (hn : els.all (·.all noN0) = true) : FrzC R (.ref (n, none) 0 k) (.list sz els) := .ref (act_of h) hk (norow_noN0 hn)
theorem fEm {R : Rs} {n ty sz : Nat} (h : R n = some ⟨ty, sz, []⟩) : FrzC R (.ref (n, none) 0 0) (.list sz []) := .ref (act_of h) (by simp [cut]) ⟨rfl, fun i x y h1 => by simp at h1⟩
theorem fBr_c {R : Rs} {n ty off k : Nat} {xs : List Int} (h : R n = some (rB ty xs)) : FrzC R (.ref (n, none) off k) (eB (cutL xs off k)) := fB (act_of h) rfl
theorem fRow {R : Rs} {n a off k : Nat} {m : List (List Int)} (h : R n = some (rM m)) (ha : a < m.length) : FrzC R (.ref (n, some (a, 0)) off k) (eB (cutL (m.getD a []) off k)) := fB (getRow h ha) rfl
theorem mRR {p : Prop} (h : p := by first | exact wr1.trans mRd | exact wrW.trans mRd | exact wrB.trans mRd) : p := h
end Go.Ev
namespace Go.Ev
open Go Go.RowKit Go.Proofs

/-- A result that is nil in one more cell is an empty slice of an empty root. -/
theorem good_nilY {P : Program} {f : FuncId} {args : List V} {v v2 : V} {rs : List Root} {ty sz : Nat} (h : Good P f args v rs) (hv : ∀ (C : Cx) (u : Value), Ext C (mkCx C C.w [] rs.length ⟨ty, sz, []⟩ fun _ => none) → VR C u v → VR (mkCx C C.w [] rs.length ⟨ty, sz, []⟩ fun _ => none) u v2) : Good P f args v2 (rs ++ [⟨ty, sz, []⟩]) := by
  refine ⟨h.1, fun w F vals hF hl hw => (h.2 w F vals hF hl hw).mono ?_⟩
  rintro e w' ⟨v', C', rfl, rfl, hS, hR, hV, hB, hFn, hO, hA, hN⟩
  obtain ⟨S1, E1, F1⟩ := empty_ok (b := rs.length) (ty := ty) (sz := sz) hS (fun h => absurd (hA _ h) (Nat.lt_irrefl _))
  refine ⟨v', _, rfl, ?_, S1, ?_, hv C' v' E1 hV, hB, hFn, fun k hk => ?_, fun k hk => ?_, fun r hr => ?_⟩
  · rfl
  · show (fun n => if n = rs.length then some (Root.mk ty sz []) else if n ∈ [] then none else C'.R n) = _
    funext n
    rw [hR]
    by_cases e : n = rs.length
    · subst e; rw [if_pos rfl, List.getElem?_concat_length]
    · rw [if_neg e, if_neg (by simp)]
      by_cases l : n < rs.length
      · rw [List.getElem?_append_left l]
      · show rs[n]? = (rs ++ [Root.mk ty sz []])[n]?
        rw [List.getElem?_eq_none (Nat.le_of_not_lt l), List.getElem?_eq_none (by rw [List.length_append]; simp only [List.length_cons, List.length_nil]; omega)]
  · rcases F1.own k hk with h1 | h1
    · exact hO k h1
    · exact Nat.le_trans hB.size h1
  · rw [List.length_append]
    rcases hk with h1 | rfl
    · have := hA k h1; simp only [List.length_cons, List.length_nil]; omega
    · simp
  · rcases List.mem_append.1 hr with h1 | h1
    · exact hN r h1
    · simp only [List.mem_singleton] at h1
      subst h1
      rfl

theorem fBr {R : Rs} {n ty k : Nat} {xs : List Int} (h : R n = some (rB ty xs)) (hk : k = xs.length) : FrzC R (.ref (n, none) 0 k) (eB xs) :=
  fB (act_of h) (by rw [hk, List.drop_zero, List.take_length])

theorem nil_agg {C : Cx} {b ty sz : Nat} {v : Value} (hv : VR C v (.agg [.val (.slice none 0 0)])) : VR (mkCx C C.w [] b ⟨ty, sz, []⟩ fun _ => none) v (.agg [.ref (b, none) 0 0]) := by
  obtain ⟨us, rfl, k1, k2⟩ := hv.agg_inv
  refine .agg k1 (fun j u' c' m1 m2 => ?_)
  cases j with
  | succ j => simp at m2
  | zero =>
    simp only [List.getElem?_cons_zero, Option.some.injEq] at m2
    subst m2
    exact empty_ref (k2 0 u' _ m1 rfl)

theorem tup_map {C C' : Cx} {v : Value} {us us' : List V} (hv : VR C v (.tup us)) (hl : us'.length = us.length) (h : ∀ (i : Nat) u c c', us[i]? = some c → us'[i]? = some c' → VR C u c → VR C' u c') : VR C' v (.tup us') := by
  obtain ⟨vs, rfl, h1, h2⟩ := hv.tup_inv
  refine .tup (by rw [h1, hl]) (fun i u c h3 h4 => ?_)
  have hi := (List.getElem?_eq_some_iff.1 h4).1
  have e : us[i]? = some us[i] := List.getElem?_eq_getElem (by omega)
  exact h i u _ c e h4 (h2 i u _ h3 e)

theorem good_nilMR {P : Program} {f : FuncId} {args : List V} (h : Good P f args (.tup [zM, zR, vb false]) []) : Good P f args (.tup [oM 0 [], oR 1 [], vb false]) [rM [], rWS []] := by
  have h1 : Good P f args (.tup [oM 0 [], zR, vb false]) [rM []] := good_nilY (rs := []) h fun C u he hu => tup_map hu rfl fun i u c c' e1 e2 hc => by
    match i, e1, e2 with
    | 0, e1, e2 => cases e1; cases e2; exact nil_agg hc
    | 1, e1, e2 => cases e1; cases e2; exact hc.ext he
    | 2, e1, e2 => cases e1; cases e2; exact hc.ext he
    | i + 3, e1, e2 => simp at e1
  exact good_nilY (rs := [rM []]) h1 fun C u he hu => tup_map hu rfl fun i u c c' e1 e2 hc => by
    match i, e1, e2 with
    | 0, e1, e2 => cases e1; cases e2; exact hc.ext he
    | 1, e1, e2 => cases e1; cases e2; exact nil_agg hc
    | 2, e1, e2 => cases e1; cases e2; exact hc.ext he
    | i + 3, e1, e2 => simp at e1

def uMR : Option (List (List Int) × List Win) → List (List Int) × List Win × Bool
  | some (m, ws) => (m, ws, true)
  | none => ([], [], false)

theorem uniI {P : Program} {f : FuncId} {args : List V} {o : Option (List (List Int) × List Win)} (h : Good P f args (oMR o) (rMR o)) : Good P f args (.tup [oM 0 (uMR o).1, oR 1 (uMR o).2.1, vb (uMR o).2.2]) [rM (uMR o).1, rWS (uMR o).2.1] := by
  cases o with
  | none => exact good_nilMR h
  | some x => obtain ⟨m, ws⟩ := x; exact h

theorem insR_ok (m : List (List Int)) (ws : List Win) (i : Int) (xs : List Int) : GM (uMR (insR m ws i xs)).1 ∧ (uMR (insR m ws i xs)).2.1.length ≤ 12 := by
  have hz : GM (uMR none).1 ∧ (uMR none).2.1.length ≤ 12 := ⟨⟨Nat.zero_le _, fun r hr => by simp [uMR] at hr, fun r hr => by simp [uMR] at hr⟩, Nat.zero_le _⟩
  unfold insR
  split
  · rename_i hC
    have hM : okM m = true := by
      simp only [cutR, okR, Bool.and_eq_true] at hC
      exact hC.1.1.1
    have hg := okM_GM hM
    split
    · exact hz
    · rename_i m' own hn
      have hm' : GM m' := by
        unfold newM at hn
        split at hn
        · simp only [Option.some.injEq, Prod.mk.injEq] at hn
          rw [← hn.1]; exact hg
        · split at hn
          · cases hn
          · simp only [Option.some.injEq, Prod.mk.injEq] at hn
            rw [← hn.1]
            have := hg.l
            refine ⟨by simp; omega, fun r hr => ?_, fun r hr => ?_⟩ <;> rcases List.mem_append.1 hr with h | h
            · exact hg.r r h
            · simp only [List.mem_singleton] at h; subst h; omega
            · exact hg.p r h
            · simp only [List.mem_singleton] at h; subst h; omega
      split
      · rename_i hl
        exact ⟨hm', hl⟩
      · exact hz
  · exact hz

theorem szWS_le {ws : List Win} {k : Int} (h0 : 0 ≤ k) (h : 0 ≤ szWS ws k) : (ws.length : Int) ≤ k := by
  unfold szWS at h
  split at h <;> omega
end Go.Ev
namespace Go.Ev
open Go Go.RowKit Go.Proofs

abbrev uM (o : Option (List (List Int))) : List (List Int) := o.getD []
abbrev uMW (o : Option (List (List Int) × Win)) : List (List Int) × Win := o.getD ([], wz)
theorem uniMW {P : Program} {f : FuncId} {args : List V} {o : Option (List (List Int) × Win)} (h : Good P f args (oMW o) (rMW o)) : Good P f args (.tup [oM 0 (uMW o).1, eW (uMW o).2, vb o.isSome]) [rM (uMW o).1] := by
  cases o with
  | none =>
    exact good_nilY (rs := []) h fun C u he hu => tup_map hu rfl fun i u c c' e1 e2 hc => by
      match i, e1, e2 with
      | 0, e1, e2 => cases e1; cases e2; exact nil_agg hc
      | 1, e1, e2 => cases e1; cases e2; exact hc.ext he
      | 2, e1, e2 => cases e1; cases e2; exact hc.ext he
      | i + 3, e1, e2 => simp at e1
  | some x => obtain ⟨m, w⟩ := x; exact h
theorem c128u (m : List (List Int)) (n : Int) (hl1 : m.length ≤ 1048576) (hl2 : ∀ r, r ∈ m → r.length ≤ 1048576) : Good Try.prog 128 [eMem m, vi n] (.tup [oM 0 (uMW (nwM m n)).1, eW (uMW (nwM m n)).2, vb (nwM m n).isSome]) [rM (uMW (nwM m n)).1] := uniMW (c128 m n hl1 hl2)
theorem c184u (m : List (List Int)) (w : Win) (xs : List Int) (hw : GW m w) (hx : xs.length ≤ 1048576) : Good Try.prog 184 [eMem m, eW w, eB xs] (.tup [oM 0 (uMW (apM m w xs)).1, eW (uMW (apM m w xs)).2, vb (apM m w xs).isSome]) [rM (uMW (apM m w xs)).1] := uniMW (c184 m w xs hw hx)
theorem c101w (w : Win) (a b c : Int) (h : (0 ≤ w.s ∧ w.s ≤ 1000000) ∧ (0 ≤ a ∧ a ≤ 1000000) ∧ (0 ≤ b ∧ b ≤ 1000000) ∧ 0 ≤ c ∧ c ≤ 1000000) : Good Try.prog 101 [eW w, vi a, vi b, vi c] (eW ⟨w.a, w.s + a, b - a, c - a⟩) [] := by
  have := c101 w a b c
  rw [show w64 (w.s + a) = w.s + a from wrap_of (by omega) (by omega), show w64 (b - a) = b - a from wrap_of (by omega) (by omega), show w64 (c - a) = c - a from wrap_of (by omega) (by omega)] at this
  exact this
theorem c146a (m : List (List Int)) (w : Win) (hl1 : m.length ≤ 1048576) (hl2 : ∀ r, r ∈ m → r.length ≤ 1048576) : Good Try.prog 146 [eMem m, .list 4 ([w].map cW)] (vb (okW m w)) [] := by
  have := c146 m [w] hl1 hl2 (by simp)
  rw [← okW_eq]
  simpa using this
theorem c146b (m : List (List Int)) (a b : Win) (hl1 : m.length ≤ 1048576) (hl2 : ∀ r, r ∈ m → r.length ≤ 1048576) : Good Try.prog 146 [eMem m, .list 4 ([a, b].map cW)] (vb (okW m a && okW m b)) [] := by
  have := c146 m [a, b] hl1 hl2 (by simp)
  rw [show (okW m a && okW m b) = (okM m && [a, b].all (hasW m)) from by rw [← okW_eq, ← okW_eq]; simp only [List.all_cons, List.all_nil, Bool.and_true]; cases okM m <;> simp]
  exact this
def slW (m : List (List Int)) (w : Win) (i j k : Int) : Option Win := if okW m w = true ∧ (0 ≤ k ∧ k ≤ w.c) ∧ (0 ≤ j ∧ j ≤ k) ∧ 0 ≤ i ∧ i ≤ j then some ⟨w.a, w.s + i, j - i, k - i⟩ else none
def wrAt (m : List (List Int)) (w : Win) (i b : Int) : Option (List (List Int)) := if okW m w = true ∧ 0 ≤ i ∧ i ≤ w.n - 1 then some (wrM m w.a.toNat (w.s + i).toNat [b]) else none
def lst (a b : Int) : Int := if a < b then a else b
def cpM (m : List (List Int)) (t f : Win) : List (List Int) := wrM m t.a.toNat t.s.toNat ((bytesOf m f).take (lst t.n f.n).toNat)
def cpO (m : List (List Int)) (t f : Win) : Option (List (List Int) × Int) := if okW m t = true ∧ okW m f = true then some (cpM m t f, lst t.n f.n) else none
def tnM (m : List (List Int)) (w : Win) (n : Int) : List (List Int) := wrM m w.a.toNat w.s.toNat ((bytesOf m w).drop n.toNat ++ (bytesOf m w).take n.toNat)
def tnO (m : List (List Int)) (w : Win) (n : Int) : Option (List (List Int)) := if okW m w = true ∧ 0 ≤ n ∧ n ≤ w.n then some (tnM m w n) else none
theorem wrM_len {m : List (List Int)} {a s : Nat} {xs : List Int} : (wrM m a s xs).length = m.length := by rw [wrM, List.length_set]
theorem bytesOf_len {m : List (List Int)} {w : Win} : (bytesOf m w).length = w.n.toNat := by simp [bytesOf]

theorem c206 (m : List (List Int)) (w : Win) (i j k : Int) (hl1 : m.length ≤ 1048576) (hl2 : ∀ r, r ∈ m → r.length ≤ 1048576) : Good Try.prog 206 [eMem m, eW w, vi i, vi j, vi k] (.tup [eW ((slW m w i j k).getD wz), vb (slW m w i j k).isSome]) [] := by
  refine good_of (E := En 41) (fn := Try.f206) (by kernel_rfl) (by kernel_rfl) rfl rfl (by simp only [List.length_cons, List.length_nil]; decide) (fun C0 => ?_)
  simp only [argT, Nat.reduceAdd, eB, eM, eWS]
  refine ev_seq fun K1 h1 => ?_
  refine ev_rf mB ?_
  iterate 4 refine dr_act wN mb ma mc mT mR ?_
  refine dr_nil (h1 _ ?_); clear h1
  refine ev_seq fun K1 h1 => ?_
  refine ev_seq fun K2 h2 => ?_
  refine ev_rf mB ?_
  iterate 2 refine dr_act wN mb ma mc mT mR ?_
  refine dr_callF wN mr mb mx mr (c144 m w mh mh) (Nat.le_of_ble_eq_true rfl) mv mT mN ?_
  iterate 2 refine dr_act wN mb ma mc mT mR ?_
  cases hc1 : (okW m w)
  · iterate 5 refine dr_skip wG mT ?_
    iterate 2 refine dr_act wN mb ma mc mT mR ?_
    iterate 4 refine dr_skip wG mT ?_
    iterate 2 refine dr_act wN mb ma mc mT mR ?_
    iterate 4 refine dr_skip wG mT ?_
    refine dr_act wN mb ma mc mT mR ?_
    refine dr_nil (h2 _ ?_); clear h2
    refine ev_cond true mlq (fun h => ?_) (fun h => by cases h)
    refine ev_seq fun K2 h2 => ?_
    refine ev_rf mB ?_
    iterate 3 refine dr_act wN mb ma mc mT mR ?_
    refine dr_nil (h2 _ ?_); clear h2
    refine ev_ret ?_
    rw [show slW m w i j k = none from by simp [slW, *]]
    exact retL [] (res' := [.cell 10 32, .tmp 11]) mr (.cell nT mZ ma mc mP (.tmp nT mL .nil)) rfl mr (by decide) trivial
  have hG := okW_GW hc1
  have g1 := hG.a0
  have g2 := hG.a1
  have g3 := hG.s0
  have g4 := hG.n0
  have g5 := hG.n1
  have g6 := hG.c1
  have g7 := hG.row
  have g8 := hG.c64
  iterate 3 refine dr_act wG mb ma mc mT mR ?_
  refine dr_callF wG mr mb mx mr (c133 k 0 w.c) (Nat.le_of_ble_eq_true rfl) mv mT mN ?_
  refine dr_act wG mb ma mc mT mR ?_
  iterate 2 refine dr_act wN mb ma mc mT mR ?_
  cases hc2 : (decide (0 ≤ k ∧ k ≤ w.c))
  · have hc2 := of_decide_eq_false hc2
    iterate 4 refine dr_skip wG mT ?_
    iterate 2 refine dr_act wN mb ma mc mT mR ?_
    iterate 4 refine dr_skip wG mT ?_
    refine dr_act wN mb ma mc mT mR ?_
    refine dr_nil (h2 _ ?_); clear h2
    refine ev_cond true mlq (fun h => ?_) (fun h => by cases h)
    refine ev_seq fun K2 h2 => ?_
    refine ev_rf mB ?_
    iterate 3 refine dr_act wN mb ma mc mT mR ?_
    refine dr_nil (h2 _ ?_); clear h2
    refine ev_ret ?_
    rw [show slW m w i j k = none from by simp [slW, *]]
    exact retL [] (res' := [.cell 10 32, .tmp 11]) mr (.cell nT mZ ma mc mP (.tmp nT mL .nil)) rfl mr (by decide) trivial
  have hc2 := of_decide_eq_true hc2
  iterate 2 refine dr_act wG mb ma mc mT mR ?_
  refine dr_callF wG mr mb mx mr (c133 j 0 k) (Nat.le_of_ble_eq_true rfl) mv mT mN ?_
  refine dr_act wG mb ma mc mT mR ?_
  iterate 2 refine dr_act wN mb ma mc mT mR ?_
  cases hc3 : (decide (0 ≤ j ∧ j ≤ k))
  · have hc3 := of_decide_eq_false hc3
    iterate 4 refine dr_skip wG mT ?_
    refine dr_act wN mb ma mc mT mR ?_
    refine dr_nil (h2 _ ?_); clear h2
    refine ev_cond true mlq (fun h => ?_) (fun h => by cases h)
    refine ev_seq fun K2 h2 => ?_
    refine ev_rf mB ?_
    iterate 3 refine dr_act wN mb ma mc mT mR ?_
    refine dr_nil (h2 _ ?_); clear h2
    refine ev_ret ?_
    rw [show slW m w i j k = none from by simp [slW, *]]
    exact retL [] (res' := [.cell 10 32, .tmp 11]) mr (.cell nT mZ ma mc mP (.tmp nT mL .nil)) rfl mr (by decide) trivial
  have hc3 := of_decide_eq_true hc3
  iterate 2 refine dr_act wG mb ma mc mT mR ?_
  refine dr_callF wG mr mb mx mr (c133 i 0 j) (Nat.le_of_ble_eq_true rfl) mv mT mN ?_
  refine dr_act wG mb ma mc mT mR ?_
  refine dr_act wN mb ma mc mT mR ?_
  refine dr_nil (h2 _ ?_); clear h2
  cases hc4 : (decide (0 ≤ i ∧ i ≤ j))
  · have hc4 := of_decide_eq_false hc4
    refine ev_cond true mlq (fun h => ?_) (fun h => by cases h)
    refine ev_seq fun K2 h2 => ?_
    refine ev_rf mB ?_
    iterate 3 refine dr_act wN mb ma mc mT mR ?_
    refine dr_nil (h2 _ ?_); clear h2
    refine ev_ret ?_
    rw [show slW m w i j k = none from by simp [slW, *]]
    exact retL [] (res' := [.cell 10 32, .tmp 11]) mr (.cell nT mZ ma mc mP (.tmp nT mL .nil)) rfl mr (by decide) trivial
  have hc4 := of_decide_eq_true hc4
  refine ev_cond false mlq (fun h => by cases h) (fun h => ?_)
  refine ev_skip (h1 _ ?_); clear h1
  refine ev_seq fun K1 h1 => ?_
  refine ev_rf mB ?_
  iterate 4 refine dr_act wN mb ma mc mT mR ?_
  refine dr_callF wN mr mb mx mr (c101w w i j k mh) (Nat.le_of_ble_eq_true rfl) mv mT mN ?_
  iterate 2 refine dr_act wN mb ma mc mT mR ?_
  refine dr_nil (h1 _ ?_); clear h1
  refine ev_ret ?_
  rw [show slW m w i j k = some ⟨w.a, w.s + i, j - i, k - i⟩ from by simp [slW, *]]
  exact retL [] (res' := [.cell 10 32, .tmp 11]) mr (.cell nT mZ ma mc mP (.tmp nT mL .nil)) rfl mr (by decide) trivial

theorem c195 (m : List (List Int)) (w : Win) (i j : Int) (hl1 : m.length ≤ 1048576) (hl2 : ∀ r, r ∈ m → r.length ≤ 1048576) : Good Try.prog 195 [eMem m, eW w, vi i, vi j] (.tup [eW ((slW m w i j w.c).getD wz), vb (slW m w i j w.c).isSome]) [] := by
  refine good_of (E := En 19) (fn := Try.f195) (by kernel_rfl) (by kernel_rfl) rfl rfl (by simp only [List.length_cons, List.length_nil]; decide) (fun C0 => ?_)
  simp only [argT, Nat.reduceAdd, eB, eM, eWS]
  refine ev_seq fun K1 h1 => ?_
  refine ev_rf mB ?_
  iterate 4 refine dr_act wN mb ma mc mT mR ?_
  refine dr_nil (h1 _ ?_); clear h1
  refine ev_seq fun K1 h1 => ?_
  refine ev_rf mB ?_
  iterate 6 refine dr_act wN mb ma mc mT mR ?_
  refine dr_callF wN mr mb mx mr (c206 m w i j w.c mh mh) (Nat.le_of_ble_eq_true rfl) mv mT mN ?_
  iterate 4 refine dr_act wN mb ma mc mT mR ?_
  refine dr_nil (h1 _ ?_); clear h1
  refine ev_ret ?_
  exact retL [] (res' := [.cell 8 32, .tmp 9]) mr (.cell nT mZ ma mc mP (.tmp nT mL .nil)) rfl mr (by decide) trivial

theorem c197 (m : List (List Int)) (w : Win) (i j k : Int) (hl1 : m.length ≤ 1048576) (hl2 : ∀ r, r ∈ m → r.length ≤ 1048576) : Good Try.prog 197 [eMem m, eW w, vi i, vi j, vi k] (.tup [eW ((slW m w i j k).getD wz), vb (slW m w i j k).isSome]) [] := by
  refine good_of (E := En 50) (fn := Try.f197) (by kernel_rfl) (by kernel_rfl) rfl rfl (by simp only [List.length_cons, List.length_nil]; decide) (fun C0 => ?_)
  simp only [argT, Nat.reduceAdd, eB, eM, eWS]
  refine ev_seq fun K1 h1 => ?_
  refine ev_rf mB ?_
  iterate 4 refine dr_act wN mb ma mc mT mR ?_
  refine dr_nil (h1 _ ?_); clear h1
  refine ev_seq fun K1 h1 => ?_
  refine ev_seq fun K2 h2 => ?_
  refine ev_rf mB ?_
  iterate 3 refine dr_act wN mb ma mc mT mR ?_
  refine dr_call wN mr mb mx (.cons (fN rfl) (.cons (.cell (fEls mr rfl rfl)) .nil)) (c146a m w mh mh) (Nat.le_of_ble_eq_true rfl) mv mT mN ?_
  iterate 2 refine dr_act wN mb ma mc mT mR ?_
  cases hc1 : (okW m w)
  · iterate 5 refine dr_skip wG mT ?_
    iterate 2 refine dr_act wN mb ma mc mT mR ?_
    iterate 4 refine dr_skip wG mT ?_
    iterate 2 refine dr_act wN mb ma mc mT mR ?_
    iterate 4 refine dr_skip wG mT ?_
    refine dr_act wN mb ma mc mT mR ?_
    refine dr_nil (h2 _ ?_); clear h2
    refine ev_cond true mlq (fun h => ?_) (fun h => by cases h)
    refine ev_seq fun K2 h2 => ?_
    refine ev_rf mB ?_
    iterate 3 refine dr_act wN mb ma mc mT mR ?_
    refine dr_nil (h2 _ ?_); clear h2
    refine ev_ret ?_
    rw [show slW m w i j k = none from by simp [slW, *]]
    exact retL [] (res' := [.cell 10 32, .tmp 11]) mr (.cell nT mZ ma mc mP (.tmp nT mL .nil)) rfl mr (by decide) trivial
  have hG := okW_GW hc1
  have g1 := hG.a0
  have g2 := hG.a1
  have g3 := hG.s0
  have g4 := hG.n0
  have g5 := hG.n1
  have g6 := hG.c1
  have g7 := hG.row
  have g8 := hG.c64
  iterate 3 refine dr_act wG mb ma mc mT mR ?_
  refine dr_callF wG mr mb mx mr (c123 k 0 w.c) (Nat.le_of_ble_eq_true rfl) mv mT mN ?_
  refine dr_act wG mb ma mc mT mR ?_
  iterate 2 refine dr_act wN mb ma mc mT mR ?_
  cases hc2 : (decide (0 ≤ k ∧ k ≤ w.c))
  · have hc2 := of_decide_eq_false hc2
    iterate 4 refine dr_skip wG mT ?_
    iterate 2 refine dr_act wN mb ma mc mT mR ?_
    iterate 4 refine dr_skip wG mT ?_
    refine dr_act wN mb ma mc mT mR ?_
    refine dr_nil (h2 _ ?_); clear h2
    refine ev_cond true mlq (fun h => ?_) (fun h => by cases h)
    refine ev_seq fun K2 h2 => ?_
    refine ev_rf mB ?_
    iterate 3 refine dr_act wN mb ma mc mT mR ?_
    refine dr_nil (h2 _ ?_); clear h2
    refine ev_ret ?_
    rw [show slW m w i j k = none from by simp [slW, *]]
    exact retL [] (res' := [.cell 10 32, .tmp 11]) mr (.cell nT mZ ma mc mP (.tmp nT mL .nil)) rfl mr (by decide) trivial
  have hc2 := of_decide_eq_true hc2
  iterate 2 refine dr_act wG mb ma mc mT mR ?_
  refine dr_callF wG mr mb mx mr (c123 j 0 k) (Nat.le_of_ble_eq_true rfl) mv mT mN ?_
  refine dr_act wG mb ma mc mT mR ?_
  iterate 2 refine dr_act wN mb ma mc mT mR ?_
  cases hc3 : (decide (0 ≤ j ∧ j ≤ k))
  · have hc3 := of_decide_eq_false hc3
    iterate 4 refine dr_skip wG mT ?_
    refine dr_act wN mb ma mc mT mR ?_
    refine dr_nil (h2 _ ?_); clear h2
    refine ev_cond true mlq (fun h => ?_) (fun h => by cases h)
    refine ev_seq fun K2 h2 => ?_
    refine ev_rf mB ?_
    iterate 3 refine dr_act wN mb ma mc mT mR ?_
    refine dr_nil (h2 _ ?_); clear h2
    refine ev_ret ?_
    rw [show slW m w i j k = none from by simp [slW, *]]
    exact retL [] (res' := [.cell 10 32, .tmp 11]) mr (.cell nT mZ ma mc mP (.tmp nT mL .nil)) rfl mr (by decide) trivial
  have hc3 := of_decide_eq_true hc3
  iterate 2 refine dr_act wG mb ma mc mT mR ?_
  refine dr_callF wG mr mb mx mr (c123 i 0 j) (Nat.le_of_ble_eq_true rfl) mv mT mN ?_
  refine dr_act wG mb ma mc mT mR ?_
  refine dr_act wN mb ma mc mT mR ?_
  refine dr_nil (h2 _ ?_); clear h2
  cases hc4 : (decide (0 ≤ i ∧ i ≤ j))
  · have hc4 := of_decide_eq_false hc4
    refine ev_cond true mlq (fun h => ?_) (fun h => by cases h)
    refine ev_seq fun K2 h2 => ?_
    refine ev_rf mB ?_
    iterate 3 refine dr_act wN mb ma mc mT mR ?_
    refine dr_nil (h2 _ ?_); clear h2
    refine ev_ret ?_
    rw [show slW m w i j k = none from by simp [slW, *]]
    exact retL [] (res' := [.cell 10 32, .tmp 11]) mr (.cell nT mZ ma mc mP (.tmp nT mL .nil)) rfl mr (by decide) trivial
  have hc4 := of_decide_eq_true hc4
  refine ev_cond false mlq (fun h => by cases h) (fun h => ?_)
  refine ev_skip (h1 _ ?_); clear h1
  refine ev_seq fun K1 h1 => ?_
  refine ev_rf mB ?_
  iterate 6 refine dr_act wN mb ma mc mT mR ?_
  rw [wrap_of (x := w.s + i) (by omega) (by omega)]
  iterate 3 refine dr_act wN mb ma mc mT mR ?_
  rw [wrap_of (x := j - i) (by omega) (by omega)]
  iterate 3 refine dr_act wN mb ma mc mT mR ?_
  rw [wrap_of (x := k - i) (by omega) (by omega)]
  iterate 3 refine dr_act wN mb ma mc mT mR ?_
  refine dr_nil (h1 _ ?_); clear h1
  refine ev_ret ?_
  rw [show slW m w i j k = some ⟨w.a, w.s + i, j - i, k - i⟩ from by simp [slW, *]]
  exact retL [] (res' := [.cell 10 32, .tmp 11]) mr (.cell nT mZ ma mc mP (.tmp nT mL .nil)) rfl mr (by decide) trivial

theorem c176 (m : List (List Int)) (w : Win) (i j : Int) (hl1 : m.length ≤ 1048576) (hl2 : ∀ r, r ∈ m → r.length ≤ 1048576) : Good Try.prog 176 [eMem m, eW w, vi i, vi j] (.tup [eW ((slW m w i j w.c).getD wz), vb (slW m w i j w.c).isSome]) [] := by
  refine good_of (E := En 19) (fn := Try.f176) (by kernel_rfl) (by kernel_rfl) rfl rfl (by simp only [List.length_cons, List.length_nil]; decide) (fun C0 => ?_)
  simp only [argT, Nat.reduceAdd, eB, eM, eWS]
  refine ev_seq fun K1 h1 => ?_
  refine ev_rf mB ?_
  iterate 4 refine dr_act wN mb ma mc mT mR ?_
  refine dr_nil (h1 _ ?_); clear h1
  refine ev_seq fun K1 h1 => ?_
  refine ev_rf mB ?_
  iterate 6 refine dr_act wN mb ma mc mT mR ?_
  refine dr_callF wN mr mb mx mr (c197 m w i j w.c mh mh) (Nat.le_of_ble_eq_true rfl) mv mT mN ?_
  iterate 4 refine dr_act wN mb ma mc mT mR ?_
  refine dr_nil (h1 _ ?_); clear h1
  refine ev_ret ?_
  exact retL [] (res' := [.cell 8 32, .tmp 9]) mr (.cell nT mZ ma mc mP (.tmp nT mL .nil)) rfl mr (by decide) trivial

theorem c177 (m : List (List Int)) (w : Win) (hl1 : m.length ≤ 1048576) (hl2 : ∀ r, r ∈ m → r.length ≤ 1048576) : Good Try.prog 177 [eMem m, eW w] (.tup [eW ((slW m w 0 w.n w.n).getD wz), vb (slW m w 0 w.n w.n).isSome]) [] := by
  refine good_of (E := En 15) (fn := Try.f177) (by kernel_rfl) (by kernel_rfl) rfl rfl (by simp only [List.length_cons, List.length_nil]; decide) (fun C0 => ?_)
  simp only [argT, Nat.reduceAdd, eB, eM, eWS]
  refine ev_seq fun K1 h1 => ?_
  refine ev_rf mB ?_
  iterate 4 refine dr_act wN mb ma mc mT mR ?_
  refine dr_nil (h1 _ ?_); clear h1
  refine ev_seq fun K1 h1 => ?_
  refine ev_rf mB ?_
  iterate 6 refine dr_act wN mb ma mc mT mR ?_
  refine dr_callF wN mr mb mx mr (c197 m w 0 w.n w.n mh mh) (Nat.le_of_ble_eq_true rfl) mv mT mN ?_
  iterate 4 refine dr_act wN mb ma mc mT mR ?_
  refine dr_nil (h1 _ ?_); clear h1
  refine ev_ret ?_
  exact retL [] (res' := [.cell 4 32, .tmp 5]) mr (.cell nT mZ ma mc mP (.tmp nT mL .nil)) rfl mr (by decide) trivial

theorem c212 (m : List (List Int)) (w : Win) (i b : Int) (hl1 : m.length ≤ 1048576) (hl2 : ∀ r, r ∈ m → r.length ≤ 1048576) (h : GW m w) (h0 : 0 ≤ i ∧ i ≤ w.n - 1) : Good Try.prog 212 [eMem m, eW w, vi i, v8 b] (oM 0 (wrM m w.a.toNat (w.s + i).toNat [b])) [rM (wrM m w.a.toNat (w.s + i).toNat [b])] := by
  refine good_of (E := En 25) (fn := Try.f212) (by kernel_rfl) (by kernel_rfl) rfl rfl (by simp only [List.length_cons, List.length_nil]; decide) (fun C0 => ?_)
  simp only [argT, Nat.reduceAdd, eB, eM, eWS]
  have g1 := h.a0
  have g2 := h.a1
  have g3 := h.s0
  have g4 := h.n0
  have g5 := h.n1
  have g6 := h.c1
  have g7 := h.row
  have g8 := h.c64
  refine ev_seq fun K1 h1 => ?_
  refine ev_rf mB ?_
  iterate 3 refine dr_act wN mb ma mc mT mR ?_
  refine dr_nil (h1 _ ?_); clear h1
  refine ev_seq fun K1 h1 => ?_
  refine ev_rf mB ?_
  refine dr_act wN mb ma mc mT mR ?_
  refine dr_callF wN mr mb mx mr (c150 m mh mh) (Nat.le_of_ble_eq_true rfl) mv mT mN ?_
  iterate 2 refine dr_act wN mb ma mc mT mR ?_
  refine dr_nil (h1 _ ?_); clear h1
  refine ev_seq fun K1 h1 => ?_
  refine ev_reg mB ?_
  iterate 4 refine dr_act wN mb ma mc mT mR ?_
  refine dr_ixp wN mr mb ml ml mr mS (by omega) (ik := w.a.toNat) (by omega) mT ?_
  refine dr_ldp (g := cR) ([] : List Int) wN mr mb ml mr (by omega) mZ mV2 mT ?_
  iterate 4 refine dr_act wN mb ma mc mT mR ?_
  rw [wrap_of (x := w.s + i) (by omega) (by omega)]
  refine dr_act wN mb ma mc mT mR ?_
  refine dr_ixp wN mr mb ml ml (getP_map (g := cR) ([] : List Int) mr (by omega) rfl) mS (by omega) (ik := (w.s + i).toNat) (by omega) mT ?_
  refine dr_str (m := m) (r := w.a.toNat) (k := (w.s + i).toNat) (b := b) wN mr mb mlq mr mlq mA ⟨by omega, by omega⟩ mT mR ?_
  refine dr_nil ⟨fun _ => by kernel_rfl, h1 _ ?_⟩; clear h1
  refine ev_seq fun K1 h1 => ?_
  refine ev_rf mB ?_
  iterate 2 refine dr_act wN mb ma mc mT mR ?_
  refine dr_nil (h1 _ ?_); clear h1
  refine ev_ret ?_
  simp only [oM, wrM_len]
  exact retL [32] (res' := [.cell 8 31]) mr (.cell nT mZ ma mc mP .nil) rfl mr (by decide) ⟨⟨mr, (pure_map fun _ => by first | rfl | simp [pcell])⟩, trivial⟩

theorem c207 (m : List (List Int)) (w : Win) (i b : Int) (hl1 : m.length ≤ 1048576) (hl2 : ∀ r, r ∈ m → r.length ≤ 1048576) : Good Try.prog 207 [eMem m, eW w, vi i, v8 b] (.tup [oM 0 (uM (wrAt m w i b)), vb (wrAt m w i b).isSome]) [rM (uM (wrAt m w i b))] := by
  refine good_of (E := En 28) (fn := Try.f207) (by kernel_rfl) (by kernel_rfl) rfl rfl (by simp only [List.length_cons, List.length_nil]; decide) (fun C0 => ?_)
  simp only [argT, Nat.reduceAdd, eB, eM, eWS]
  refine ev_seq fun K1 h1 => ?_
  refine ev_rf mB ?_
  iterate 4 refine dr_act wN mb ma mc mT mR ?_
  refine dr_nil (h1 _ ?_); clear h1
  refine ev_seq fun K1 h1 => ?_
  refine ev_seq fun K2 h2 => ?_
  refine ev_rf mB ?_
  iterate 2 refine dr_act wN mb ma mc mT mR ?_
  refine dr_callF wN mr mb mx mr (c144 m w mh mh) (Nat.le_of_ble_eq_true rfl) mv mT mN ?_
  iterate 2 refine dr_act wN mb ma mc mT mR ?_
  cases hc1 : (okW m w)
  · iterate 6 refine dr_skip wG mT ?_
    refine dr_act wN mb ma mc mT mR ?_
    refine dr_nil (h2 _ ?_); clear h2
    refine ev_cond true mlq (fun h => ?_) (fun h => by cases h)
    refine ev_seq fun K2 h2 => ?_
    refine ev_rf mB ?_
    iterate 3 refine dr_act wN mb ma mc mT mR ?_
    refine dr_nil (h2 _ ?_); clear h2
    refine ev_weak (weak_nil 16 0 0 29 1 mr mr mr mNl (by decide : 152 < 160)) ?_
    refine ev_ret ?_
    rw [show wrAt m w i b = none from by simp [wrAt, *]]
    exact retL [152] (res' := [.cell 8 31, .tmp 9]) mr (.cell nT mZ ma mc mP (.tmp nT mL .nil)) rfl mr (by decide) ⟨⟨mr, rfl⟩, trivial⟩
  have hG := okW_GW hc1
  have g1 := hG.a0
  have g2 := hG.a1
  have g3 := hG.s0
  have g4 := hG.n0
  have g5 := hG.n1
  have g6 := hG.c1
  have g7 := hG.row
  have g8 := hG.c64
  iterate 4 refine dr_act wG mb ma mc mT mR ?_
  rw [wrap_of (x := w.n - 1) (by omega) (by omega)]
  refine dr_callF wG mr mb mx mr (c133 i 0 (w.n - 1)) (Nat.le_of_ble_eq_true rfl) mv mT mN ?_
  refine dr_act wG mb ma mc mT mR ?_
  refine dr_act wN mb ma mc mT mR ?_
  refine dr_nil (h2 _ ?_); clear h2
  cases hc2 : (decide (0 ≤ i ∧ i ≤ (w.n - 1)))
  · have hc2 := of_decide_eq_false hc2
    refine ev_cond true mlq (fun h => ?_) (fun h => by cases h)
    refine ev_seq fun K2 h2 => ?_
    refine ev_rf mB ?_
    iterate 3 refine dr_act wN mb ma mc mT mR ?_
    refine dr_nil (h2 _ ?_); clear h2
    refine ev_weak (weak_nil 16 0 0 29 1 mr mr mr mNl (by decide : 152 < 160)) ?_
    refine ev_ret ?_
    rw [show wrAt m w i b = none from by simp [wrAt, *]]
    exact retL [152] (res' := [.cell 8 31, .tmp 9]) mr (.cell nT mZ ma mc mP (.tmp nT mL .nil)) rfl mr (by decide) ⟨⟨mr, rfl⟩, trivial⟩
  have hc2 := of_decide_eq_true hc2
  refine ev_cond false mlq (fun h => by cases h) (fun h => ?_)
  refine ev_skip (h1 _ ?_); clear h1
  refine ev_seq fun K1 h1 => ?_
  refine ev_rf mB ?_
  iterate 4 refine dr_act wN mb ma mc mT mR ?_
  refine dr_callF wN mr mb mx mr (c212 m w i b mh mh mh mh) (Nat.le_of_ble_eq_true rfl) mv mT mN ?_
  iterate 2 refine dr_act wN mb ma mc mT mR ?_
  refine dr_nil (h1 _ ?_); clear h1
  refine ev_ret ?_
  rw [show wrAt m w i b = some (wrM m w.a.toNat (w.s + i).toNat [b]) from by simp [wrAt, *]]
  exact retL [160] (res' := [.cell 8 31, .tmp 9]) mr (.cell nT mZ ma mc mP (.tmp nT mL .nil)) rfl mr (by decide) ⟨⟨mr, (pure_map fun _ => by first | rfl | simp [pcell])⟩, trivial⟩
end Go.Ev
namespace Go.Ev
open Go Go.RowKit Go.Proofs

theorem c185u (m : List (List Int)) (w : Win) (hf : Fits m w) : Good Try.prog 185 [eMem m, eW w] (.ref (0, none) 0 (bytesOf m w).length) [⟨5, 1, (bytesOf m w).map cB⟩] := by
  rw [bytesOf_len]; exact c185 m w hf
theorem c106z (m : List (List Int)) (w : Win) (xs : List Int) (h : GW m w) (he : w.s.toNat + xs.length ≤ (m.getD w.a.toNat []).length) : Good Try.prog 106 [eMem m, eW w, vi 0, eB xs] (oM 0 (wrM m w.a.toNat w.s.toNat xs)) [rM (wrM m w.a.toNat w.s.toNat xs)] := by
  have g3 := h.s0
  have k := c106 m w 0 xs h.g.l4 h.g.r4 ⟨h.a0, h.a1⟩ (by omega) (by rw [Int.add_zero]; exact he)
  rw [Int.add_zero] at k
  simp only [oM, wrM_len]
  exact k
theorem c200u (a b : Int) : Good Try.prog 200 [vi a, vi b] (vi (lst a b)) [] := c200 a b
theorem cutL_zero {α : Type} {l : List α} {k : Nat} : cutL l 0 k = l.take k := by simp [cutL]
theorem cutL_tail {α : Type} {l : List α} {i k : Nat} (h : l.length ≤ i + k) : cutL l i k = l.drop i := by rw [cutL, List.take_of_length_le (by rw [List.length_drop]; omega)]

section rules
variable {E : Env} {C0 : Cx} {T : List (Nat × V)} {R : List (Nat × Root)} {ops : Array Oper} {base i bi : Nat} {o : Oper} {l : List Oper} {T1 : List (Nat × V)} {R1 : List (Nat × Root)} {v : V}
variable {Kd : List (Nat × V) → List (Nat × Root) → List Lg → Prop}
/-- Bytes copied into a row of an own memory, as many as fit. -/
theorem dr_cpx {d s : Operand} {t u : TypeId} {n a off len k : Nat} {m : List (List Int)} (src : List Int) (hw : WantOK E.nt ops o (lookT T) true) (ho : o.op = .call ⟨.builtin .copy, #[d, s], #[t, u]⟩) (hb : base + 8 * i = bi) (hd : lookO E.nt (lookT T) d = .ref (n, some (a, 0)) off len) (hr : lookR R n = some (rM m)) (ha : a < m.length)
    (hs : elsOf (lookR R) (lookO E.nt (lookT T) s) = some (1, src.map cB)) (hz : slT E.tab t ∧ (E.tab (E.tab t).elem).sz = 1) (hk' : k = min len src.length) (hT : putT T o.dst (vi (k : Nat)) = T1) (hR : applyW R [(n, some (rM (wrM m a off (src.take k))))] = R1)
    (hk : Dr E ops base (i + 1) l (fun T' R' lg => Kd T' R' ((opNames (lookO E.nt (lookT T)) o.op, [(n, some (rM (wrM m a off (src.take k))))]) :: lg)) T1 R1) : Dr E ops base i (o :: l) Kd T R := by
  subst hk'
  have e : copyL ((m.getD a []).map cB) (src.map cB) off (min len (src.map cB).length) = (ovr (m.getD a []) off (src.take (min len src.length))).map cB := by
    have hl : (src.take (min len src.length)).length = min len src.length := by rw [List.length_take]; omega
    simp only [copyL, ovr, List.map_append, List.map_take, List.map_drop, List.length_map, hl]
  have e2 : setP (rM m) (some (a, 0)) (copyL ((m.getD a []).map cB) (src.map cB) off (min len (src.map cB).length)) = rM (wrM m a off (src.take (min len src.length))) := by rw [e, setP_row ha]; rfl
  refine dr_act hw hb (c := slT E.tab t ∧ (((E.tab (E.tab t).elem).sz = 1 ∧ (1 : Nat) = 1 ∧ (1 : Nat) = 1) ∧ (src.map cB).all (·.all notRow) = true)) (v := vi ((min len (src.map cB).length : Nat))) (wr := [(n, some (rM (wrM m a off (src.take (min len src.length)))))]) ?_ ⟨hz.1, ⟨hz.2, rfl, rfl⟩, okBn⟩ (by rw [List.length_map]; exact hT) hR hk
  rw [ho]
  simp only [act, callV, List.toList_toArray, hd, hs, copyV, hr, getRow hr ha, grd, Option.map_some, e2]
  rfl
end rules
end Go.Ev
namespace Go.Ev
open Go Go.RowKit Go.Proofs

theorem hdM_neg {m : List (List Int)} {k : Int} (hk : 0 ≤ k) (h : hdM m k < 0) : hdM m k = -1 := by
  unfold hdM at h ⊢
  split
  · rename_i e; rw [if_pos e] at h; omega
  · rfl

theorem c65 (m : List (List Int)) (k : Int) (hk : 0 ≤ k) (hk2 : k + tot m ≤ 4000000) (hl : m.length ≤ 1048576) : Good Try.prog 65 [eMem m, vi k] (vi (hdM m k)) [] := by
  refine good_of (E := En 12) (fn := Try.f65) (by kernel_rfl) (by kernel_rfl) rfl rfl (by simp only [List.length_cons, List.length_nil]; decide) (fun C0 => ?_)
  simp only [argT, Nat.reduceAdd]
  refine ev_seq fun K1 h1 => ev_rf mB ?_
  repeat refine dr_act wN mb ma mc mT mR ?_
  refine dr_nil (h1 _ ?_); clear h1 K1
  refine ev_seq fun K1 h1 => ev_rf mB ?_
  repeat refine dr_act wN mb ma mc mT mR ?_
  refine dr_callF wN mr mb mx mr (c131 m k hk hk2 hl) (Nat.le_of_ble_eq_true rfl) mv mT mN ?_
  repeat refine dr_act wN mb ma mc mT mR ?_
  refine dr_nil (h1 _ ?_); clear h1 K1
  refine ev_seq fun K1 h1 => ev_seq fun K2 h2 => ev_rf mB ?_
  repeat refine dr_act wN mb ma mc mT mR ?_
  refine dr_nil (h2 _ ?_); clear h2 K2
  refine ev_cond _ ml (fun h => ?_) (fun h => ev_skip (h1 _ ?_))
  · have hlt := of_decide_eq_true h
    refine ev_seq fun K2 h2 => ev_rf mB ?_
    repeat refine dr_act wN mb ma mc mT mR ?_
    refine dr_nil (h2 _ (ev_ret ?_)); clear h2 h1
    exact retT [4] (hv := by rw [hdM_neg hk hlt]; rfl)
  · clear h1 K1
    refine ev_seq fun K2 h2 => ev_rf mB ?_
    repeat refine dr_act wN mb ma mc mT mR ?_
    refine dr_nil (h2 _ (ev_ret ?_)); clear h2
    exact retT [4] (hv := rfl)

theorem c22 (g : Gp) (k : Int) (hk : 0 ≤ k) (hk2 : k + tot g.m ≤ 4000000) (hl : g.m.length ≤ 1048576) : Good Try.prog 22 [eG g, vi k] (vi (hdM g.m k)) [] := by
  refine good_of (E := En 12) (fn := Try.f22) (by kernel_rfl) (by kernel_rfl) rfl rfl (by simp only [List.length_cons, List.length_nil]; decide) (fun C0 => ?_)
  simp only [argT, Nat.reduceAdd]
  refine ev_seq fun K1 h1 => ev_rf mB ?_
  repeat refine dr_act wN mb ma mc mT mR ?_
  refine dr_nil (h1 _ ?_); clear h1 K1
  refine ev_seq fun K1 h1 => ev_rf mB ?_
  repeat refine dr_act wN mb ma mc mT mR ?_
  refine dr_callF wN mr mb mx mr (c65 g.m k hk hk2 hl) (Nat.le_of_ble_eq_true rfl) mv mT mN ?_
  repeat refine dr_act wN mb ma mc mT mR ?_
  refine dr_nil (h1 _ ?_); clear h1 K1
  refine ev_seq fun K1 h1 => ev_seq fun K2 h2 => ev_rf mB ?_
  repeat refine dr_act wN mb ma mc mT mR ?_
  refine dr_nil (h2 _ ?_); clear h2 K2
  refine ev_cond _ ml (fun h => ?_) (fun h => ev_skip (h1 _ ?_))
  · have hlt := of_decide_eq_true h
    refine ev_seq fun K2 h2 => ev_rf mB ?_
    repeat refine dr_act wN mb ma mc mT mR ?_
    refine dr_nil (h2 _ (ev_ret ?_)); clear h2 h1
    exact retT [4] (hv := by rw [hdM_neg hk hlt]; rfl)
  · clear h1 K1
    refine ev_seq fun K2 h2 => ev_rf mB ?_
    repeat refine dr_act wN mb ma mc mT mR ?_
    refine dr_nil (h2 _ (ev_ret ?_)); clear h2
    exact retT [4] (hv := rfl)
end Go.Ev
namespace Go.Ev
open Go Go.RowKit Go.Proofs

theorem c91 (e : Ed) (n : Int) : Good Try.prog 91 [eE e, vi n] (vb (decide (0 ≤ e.at_ ∧ e.at_ ≤ n) && decide (0 ≤ e.n ∧ e.n ≤ w64 (n - e.at_)))) [] := by
  refine good_of (E := En 18) (fn := Try.f91) (by kernel_rfl) (by kernel_rfl) rfl rfl (by simp only [List.length_cons, List.length_nil]; decide) (fun C0 => ?_)
  simp only [argT, Nat.reduceAdd]
  refine ev_seq fun K1 h1 => ev_rf mB ?_
  repeat refine dr_act wN mb ma mc mT mR ?_
  refine dr_nil (h1 _ ?_); clear h1 K1
  refine ev_seq fun K1 h1 => ev_rf mB ?_
  repeat refine dr_act wN mb ma mc mT mR ?_
  refine dr_callF wN mr mb mx mr (c123 e.at_ 0 n) (Nat.le_of_ble_eq_true rfl) mv mT mN ?_
  refine dr_act wN mb ma mc mT mR ?_
  cases hd : decide (0 ≤ e.at_ ∧ e.at_ ≤ n)
  · iterate 7 refine dr_skip wG mT ?_
    repeat refine dr_act wN mb ma mc mT mR ?_
    refine dr_nil (h1 _ (ev_ret ?_))
    exact retT [4] (hv := by rw [hd]; rfl)
  · iterate 6 refine dr_act wG mb ma mc mT mR ?_
    refine dr_callF wG mr mb mx mr (c123 e.n 0 _) (Nat.le_of_ble_eq_true rfl) mv mT mN ?_
    repeat refine dr_act wN mb ma mc mT mR ?_
    refine dr_nil (h1 _ (ev_ret ?_))
    exact retT [4] (hv := by rw [hd]; rfl)
end Go.Ev
namespace Go.Ev
open Go Go.RowKit Go.Proofs

theorem c93 (g : Gp) (t : Int) (hg : GG g) (h0 : 0 ≤ t) (ht : t ≤ lgG g) :
    GoodR Try.prog 93 [.ptr (0, none) 0 0, vi t] [bG 1 g, rM g.m] (vi (mvC g t)) [some (bG 1 (mvG g t)), some (rM (mvG g t).m)] := by
  refine goodR_of (E := En 76 2) (fn := Try.f93) (by kernel_rfl) (by kernel_rfl) rfl rfl (by simp only [List.length_cons, List.length_nil]; decide) ⟨rfl, Nat.le_refl 2⟩ rfl ⟨rfl, okMM, trivial⟩ (fun C0 => ?_)
  have ht : t ≤ g.w.n - (g.q - g.p) := ht
  have hwn := hg.w.c64
  have hwn1 := hg.w.n1
  have hwn0 := hg.w.n0
  have hq := hg.qn
  have hp0 := hg.p0
  have hpq := hg.pq
  have hs0 := hg.w.s0
  have hc1 := hg.w.c1
  have ha0 := hg.w.a0
  have ha1 := hg.w.a1
  have w1 : IntKind.i64.wrap (t - g.p) = t - g.p := wrap_of (by omega) (by omega)
  have w2 : IntKind.i64.wrap (g.q + (t - g.p)) = g.q + (t - g.p) := wrap_of (by omega) (by omega)
  have w3 : IntKind.i64.wrap (-(t - g.p)) = -(t - g.p) := wrap_of (by omega) (by omega)
  have hrow := hg.w.row
  simp only [argT, rsT, Nat.reduceAdd, List.length_cons, List.length_nil]
  refine ev_seq fun K1 h1 => ev_rf mB ?_
  repeat refine dr_act wN mb ma mc mT mR ?_
  refine dr_nil (h1 _ ?_); clear h1 K1
  refine ev_seq fun K1 h1 => ev_reg mB ?_
  repeat refine dr_act wN mb ma mc mT mR ?_
  refine dr_callR [1] [] wN mr mb mx (c107 g.m g.w hg.w.fits (wrap_of (by omega) (by omega))) (.ren rfl rfl (.ren rfl rfl .nil)) (hand1 mr) ⟨⟨by decide, nz⟩, Nat.le_of_ble_eq_true rfl⟩ (v := .ref (1, some (g.w.a.toNat, 0)) g.w.s.toNat g.w.n.toNat) rfl mT (wr1.trans mr) ?_
  repeat refine dr_act wN mb ma mc mT mR ?_
  refine dr_nil ⟨fun _ => by kernel_rfl, h1 _ ?_⟩; clear h1
  rw [w1]
  refine ev_seq fun K1 h1 => ?_
  refine ev_seq fun K2 h2 => ev_rf mB ?_
  repeat refine dr_act wN mb ma mc mT mR ?_
  refine dr_nil (h2 _ ?_); clear h2
  refine ev_cond _ ml (fun h => ?_) (fun h => ?_)
  · have hlt := of_decide_eq_true h
    refine ev_reg mB ?_
    repeat refine dr_act wN mb ma mc mT mR ?_
    rw [w2]
    refine dr_slr (g.q + (t - g.p)) (g.w.n.toNat : Nat) wN mr mb ml mr (by omega) mr mr mS (by omega) mT ?_
    repeat refine dr_act wN mb ma mc mT mR ?_
    refine dr_slr t g.p wN mr mb ml mr (by omega) mr mr mS (by omega) mT ?_
    refine dr_cpr (slB (bytesOf g.m g.w) t g.p) wN mr mb ml mr (by omega) (elsRow ml mr (by omega) (slB_eq hg.w.fits h0 (by omega)).symm) mS (by have := slB_le (bytesOf g.m g.w) t g.p; simp only [Int.toNat_natCast]; omega) mT mr fun z => ?_
    refine dr_nil ⟨fun _ => by kernel_rfl, h1 _ ?_⟩; clear h1
    have e1 : g.w.s.toNat + (g.q + (t - g.p)).toNat = (g.w.s + (t + (g.q - g.p))).toNat := by omega
    have e2 : g.q + (t - g.p) = t + (g.q - g.p) := by omega
    rw [e1, mvG, mvC, if_pos (by omega), if_pos (by omega)]
    refine ev_seq fun K1 h1 => ev_reg mB ?_
    repeat refine dr_act wN mb ma mc mT mR ?_
    rw [w2]
    refine dr_nil ⟨fun _ => by kernel_rfl, h1 _ ?_⟩; clear h1
    refine ev_seq fun K1 h1 => ev_rf mB ?_
    refine dr_act wN mb ma mc mT mR ?_
    refine dr_act wN mb ma mc mT mR ?_
    refine dr_act wN mb ma mc mT mR ?_
    rw [w3]
    repeat refine dr_act wN mb ma mc mT mR ?_
    refine dr_nil (h1 _ (ev_ret ?_)); clear h1
    refine retRT [] [4] (hv := ?_) (hR := ⟨⟨_, rfl, rfl, rfl, ?_⟩, ⟨_, rfl, rfl, rfl, ?_⟩, trivial⟩)
    · rw [if_pos (by omega), show -(t - g.p) = g.p - t by omega]; rfl
    · simp only [bG, cG, wrM_length, e2]; rfl
    · exact rnMap (fun _ => rfl) _
  · have hge := of_decide_eq_false h
    have hm := mvG_ge (g := g) (t := t) (by omega)
    refine ev_reg mB ?_
    repeat refine dr_act wN mb ma mc mT mR ?_
    refine dr_slr g.p (g.w.n.toNat : Nat) wN mr mb ml mr (by omega) mr mr mS (by omega) mT ?_
    repeat refine dr_act wN mb ma mc mT mR ?_
    rw [w2]
    refine dr_slr g.q (g.q + (t - g.p)) wN mr mb ml mr (by omega) mr mr mS (by omega) mT ?_
    refine dr_cpr (slB (bytesOf g.m g.w) g.q (g.q + (t - g.p))) wN mr mb ml mr (by omega) (elsRow ml mr (by omega) (slB_eq hg.w.fits (by omega) (by omega)).symm) mS (by have := slB_le (bytesOf g.m g.w) g.q (g.q + (t - g.p)); simp only [Int.toNat_natCast]; omega) mT mr fun z => ?_
    refine dr_nil ⟨fun _ => by kernel_rfl, h1 _ ?_⟩; clear h1
    have e1 : g.w.s.toNat + g.p.toNat = (g.w.s + g.p).toNat := by omega
    have e2 : g.q + (t - g.p) = t + (g.q - g.p) := by omega
    rw [e1, hm.1, hm.2]
    refine ev_seq fun K1 h1 => ev_reg mB ?_
    repeat refine dr_act wN mb ma mc mT mR ?_
    rw [w2]
    refine dr_nil ⟨fun _ => by kernel_rfl, h1 _ ?_⟩; clear h1
    refine ev_seq fun K1 h1 => ev_rf mB ?_
    refine dr_act wN mb ma mc mT mR ?_
    refine dr_act wN mb ma mc mT mR ?_
    refine dr_act wN mb ma mc mT mR ?_
    rw [w3]
    repeat refine dr_act wN mb ma mc mT mR ?_
    refine dr_nil (h1 _ (ev_ret ?_)); clear h1
    refine retRT [] [4] (hv := ?_) (hR := ⟨⟨_, rfl, rfl, rfl, ?_⟩, ⟨_, rfl, rfl, rfl, ?_⟩, trivial⟩)
    · rw [if_neg (by omega)]; rfl
    · simp only [bG, cG, wrM_length, e2]; rfl
    · rw [e2]; exact rnMap (g := cR) (fun _ => rfl) _
end Go.Ev
namespace Go.Ev
open Go Go.RowKit Go.Proofs

theorem c147 (g : Gp) (n : Int) (hg : GG g) (hn : 0 ≤ n) (hn2 : n ≤ 4000000) :
    GoodR Try.prog 147 [.ptr (0, none) 0 0, vi n] [bG 1 g, rM g.m] (vb (wdG g n).isSome) [some (bG 2 ((wdG g n).getD g)), none, some (rM ((wdG g n).getD g).m)] := by
  refine goodR_of (E := En 66 2) (fn := Try.f147) (by kernel_rfl) (by kernel_rfl) rfl rfl (by simp only [List.length_cons, List.length_nil]; decide) ⟨rfl, Nat.le_of_ble_eq_true rfl⟩ rfl ⟨rfl, okMM, trivial⟩ (fun C0 => ?_)
  simp only [argT, rsT, Nat.reduceAdd, List.length_cons, List.length_nil]
  refine ev_seq fun K1 h1 => ev_rf mB ?_
  repeat refine dr_act wN mb ma mc mT mR ?_
  refine dr_nil (h1 _ ?_); clear h1 K1
  refine ev_seq fun K1 h1 => ?_
  refine ev_seq fun K2 h2 => ev_rf mB ?_
  repeat refine dr_act wN mb ma mc mT mR ?_
  refine dr_nil (h2 _ ?_); clear h2
  refine ev_cond _ ml (fun h => ?_) (fun h => ev_skip (h1 _ ?_))
  · have hgt := of_decide_eq_true h
    clear h1
    have e : wdG g n = none := by rw [wdG, if_pos hgt]
    rw [e]
    refine ev_weak (σ' := ⟨[], [(0, bG 400 g), (400, rM g.m)], 408⟩) (weak_ren [(400, 1)] mK (chkR_cons mK (chkRm rfl (by decide) rfl (fun _ => rfl) (fun a => by simp [okC]) trivial)) mD mQ) ?_
    refine ev_seq fun K2 h2 => ev_rf mB ?_
    repeat refine dr_act wN mb ma mc mT mR ?_
    refine dr_nil (h2 _ (ev_ret ?_)); clear h2
    exact retRT [400] [4] (hR := ⟨⟨_, rfl, rfl, rfl, rfl⟩, ⟨_, rfl, rfl, rfl, rnMap (g := cR) (fun _ => rfl) _⟩, trivial⟩)
  have hle := of_decide_eq_false h
  have hcs := c189 g g.w (List.replicate n.toNat 0) hg.w (by rw [List.length_replicate]; omega)
  clear h1 h
  have hwn := hg.w.c64
  have hwn1 := hg.w.n1
  have hwn0 := hg.w.n0
  have hq := hg.qn
  have hq0 : 0 ≤ g.q := Int.le_trans hg.p0 hg.pq
  have w1 : IntKind.i64.wrap (g.q + n) = g.q + n := wrap_of (by omega) (by omega)
  refine ev_seq fun K1 h1 => ev_rf mB ?_
  repeat refine dr_act wN mb ma mc mT mR ?_
  refine dr_nil (h1 _ ?_); clear h1
  rcases hap : apM g.m g.w (List.replicate n.toNat 0) with _ | ⟨m', w'⟩
  · rw [hap] at hcs
    have e : wdG g n = none := by rw [wdG, if_neg hle, hap]
    rw [e]
    refine ev_seq fun K1 h1 => ev_reg mB ?_
    repeat refine dr_act wN mb ma mc mT mR ?_
    refine dr_act wN mb ma (by omega) mT mR ?_
    refine dr_callR [0, 1] [138] wN mr mb mx hcs (.ren rfl rfl (.ren rfl rfl (.frz (.cell (fB (xs := List.replicate n.toNat 0) (by rw [← rep0]; rfl) (by rw [List.drop_zero, List.take_of_length_le (by rw [List.length_replicate]; exact Nat.le_refl _)]))) .nil))) (hand2 mr mr) ⟨⟨by decide, fun z hz => by simp at hz; subst hz; decide⟩, Nat.le_of_ble_eq_true rfl⟩ (v := .tup [zW, vb false]) rfl mT (wr3.trans mRd) ?_
    repeat refine dr_act wN mb ma mc mT mR ?_
    refine dr_nil ⟨fun _ => by kernel_rfl, h1 _ ?_⟩; clear h1
    refine ev_seq fun K1 h1 => ?_
    refine ev_seq fun K2 h2 => ev_rf mB ?_
    repeat refine dr_act wN mb ma mc mT mR ?_
    refine dr_nil (h2 _ ?_); clear h2
    refine ev_cond true mlq (fun h => ?_) (fun h => by cases h)
    refine ev_seq fun K2 h2 => ev_rf mB ?_
    repeat refine dr_act wN mb ma mc mT mR ?_
    refine dr_nil (h2 _ (ev_ret ?_)); clear h2 h1
    exact retRT [146] [4] (hR := ⟨⟨_, rfl, rfl, rfl, rfl⟩, ⟨_, rfl, rfl, rfl, rnMap (g := cR) (fun _ => rfl) _⟩, trivial⟩)
  · rw [hap] at hcs
    obtain ⟨hw', hn'⟩ := apM_GW hg.w hap
    have hsub := apM_sub (q := g.q.toNat) hg.w hap (by omega)
    simp only [List.length_replicate] at hn'
    have e : wdG g n = some ⟨wrM m' w'.a.toNat (w'.s + (g.q + n)).toNat ((bytesOf g.m g.w).drop g.q.toNat), w', g.p, g.q + n⟩ := by rw [wdG, if_neg hle, hap]
    have hbl : ((bytesOf g.m g.w).drop g.q.toNat).length = g.w.n.toNat - g.q.toNat := by rw [List.length_drop, bytesOf_length]
    have k1 := hw'.n1
    have k2 := hw'.c1
    have k3 := hw'.s0
    have k4 := hw'.a0
    have k5 := hw'.a1
    have k6 := hw'.row
    rw [e]
    refine ev_seq fun K1 h1 => ev_reg mB ?_
    repeat refine dr_act wN mb ma mc mT mR ?_
    refine dr_act wN mb ma (by omega) mT mR ?_
    refine dr_callR [0, 1] [138] wN mr mb mx hcs (.ren rfl rfl (.ren rfl rfl (.frz (.cell (fB (xs := List.replicate n.toNat 0) (by rw [← rep0]; rfl) (by rw [List.drop_zero, List.take_of_length_le (by rw [List.length_replicate]; exact Nat.le_refl _)]))) .nil))) (hand2 mr mr) ⟨⟨by decide, fun z hz => by simp at hz; subst hz; decide⟩, Nat.le_of_ble_eq_true rfl⟩ (v := .tup [eW w', vb true]) rfl mT (wr3.trans mRd) ?_
    repeat refine dr_act wN mb ma mc mT mR ?_
    refine dr_nil ⟨fun _ => by kernel_rfl, h1 _ ?_⟩; clear h1
    refine ev_seq fun K1 h1 => ?_
    refine ev_seq fun K2 h2 => ev_rf mB ?_
    repeat refine dr_act wN mb ma mc mT mR ?_
    refine dr_nil (h2 _ ?_); clear h2
    refine ev_cond false mlq (fun h => by cases h) (fun h => ev_skip (h1 _ ?_)); clear h1
    refine ev_seq fun K1 h1 => ev_reg mB ?_
    repeat refine dr_act wN mb ma mc mT mR ?_
    refine dr_callR [146] [] wN mr mb mx (c107 m' w' hw'.fits (wrap_of (by omega) (by omega))) (.ren rfl rfl (.ren rfl rfl .nil)) (hand1 mr) ⟨⟨by decide, nz⟩, Nat.le_of_ble_eq_true rfl⟩ (v := .ref (146, some (w'.a.toNat, 0)) w'.s.toNat w'.n.toNat) rfl mT (wr1.trans mRd) ?_
    repeat refine dr_act wN mb ma mc mT mR ?_
    refine dr_nil ⟨fun _ => by kernel_rfl, h1 _ ?_⟩; clear h1
    refine ev_seq fun K1 h1 => ev_reg mB ?_
    repeat refine dr_act wN mb ma mc mT mR ?_
    rw [w1]
    refine dr_slr (g.q + n) (w'.n.toNat : Nat) wN mr mb ml mr (by omega) mr mr mS (by omega) mT ?_
    repeat refine dr_act wN mb ma mc mT mR ?_
    refine dr_slr g.q g.w.n wN mr mb ml mr (by omega) mr mr mS (by omega) mT ?_
    refine dr_cpr ((bytesOf g.m g.w).drop g.q.toNat) wN mr mb ml mr (by omega) (elsRow ml mr (by omega) hsub) mS (by rw [hbl]; simp only [Int.toNat_natCast]; omega) mT mRd fun z => ?_
    refine dr_nil ⟨fun _ => by kernel_rfl, h1 _ ?_⟩; clear h1
    rw [show w'.s.toNat + (g.q + n).toNat = (w'.s + (g.q + n)).toNat by omega]
    refine ev_seq fun K1 h1 => ev_reg mB ?_
    repeat refine dr_act wN mb ma mc mT mR ?_
    rw [w1]
    refine dr_nil ⟨fun _ => by kernel_rfl, h1 _ ?_⟩; clear h1
    refine ev_seq fun K1 h1 => ev_rf mB ?_
    repeat refine dr_act wN mb ma mc mT mR ?_
    refine dr_nil (h1 _ (ev_ret ?_)); clear h1
    refine retRT [146] [4] (hR := ⟨⟨_, rfl, rfl, rfl, ?_⟩, ⟨_, rfl, rfl, rfl, rnMap (g := cR) (fun _ => rfl) _⟩, trivial⟩)
    simp only [bG, cG, Option.getD_some, wrM_length]; rfl
end Go.Ev
namespace Go.Ev
open Go Go.RowKit Go.Proofs

theorem c88 (g : Gp) (xs : List Int) (hg : GG g) (hx : xs.length ≤ 1048576) :
    GoodR Try.prog 88 [.ptr (0, none) 0 0, eB xs] [bG 1 g, rM g.m] (vb (ptG g xs).isSome) [some (bG 2 ((ptG g xs).getD g)), none, some (rM ((ptG g xs).getD g).m)] := by
  refine goodR_of (E := En 51 2) (fn := Try.f88) (by kernel_rfl) (by kernel_rfl) rfl rfl (by simp only [List.length_cons, List.length_nil]; decide) ⟨rfl, Nat.le_of_ble_eq_true rfl⟩ rfl ⟨rfl, okMM, trivial⟩ (fun C0 => ?_)
  simp only [argT, rsT, Nat.reduceAdd, List.length_cons, List.length_nil, eB]
  have hwn := hg.w.c64
  have hwn1 := hg.w.n1
  have hwn0 := hg.w.n0
  have hq := hg.qn
  have hp0 := hg.p0
  have hpq := hg.pq
  have hs0 := hg.w.s0
  have hc1 := hg.w.c1
  have ha0 := hg.w.a0
  have ha1 := hg.w.a1
  have hrow := hg.w.row
  have w1 : IntKind.i64.wrap (g.q - g.p) = g.q - g.p := wrap_of (by omega) (by omega)
  have w2 : IntKind.i64.wrap ((xs.length : Nat) - (g.q - g.p)) = (xs.length : Nat) - (g.q - g.p) := wrap_of (by omega) (by omega)
  refine ev_seq fun K1 h1 => ev_rf mB ?_
  repeat refine dr_act wN mb ma mc mT mR ?_
  refine dr_nil (h1 _ ?_); clear h1 K1
  refine ev_seq fun K1 h1 => ?_
  refine ev_seq fun K2 h2 => ev_reg mB ?_
  repeat refine dr_act wN mb ma mc mT mR ?_
  refine dr_nil ⟨fun _ => by kernel_rfl, h2 _ ?_⟩; clear h2
  rw [w1, w2]
  refine ev_seq fun K2 h2 => ev_rf mB ?_
  refine dr_act wN mb ma mc mT mR ?_
  refine dr_act wN mb ma mc mT mR ?_
  refine dr_act wN mb ma mc mT mR ?_
  cases hd : decide ((xs.length : Nat) - (g.q - g.p) > 0)
  · have hle := of_decide_eq_false hd
    iterate 4 refine dr_skip wG mT ?_
    repeat refine dr_act wN mb ma mc mT mR ?_
    refine dr_nil (h2 _ ?_); clear h2
    have e : ptG g xs = some ⟨wrM g.m g.w.a.toNat (g.w.s + g.p).toNat xs, g.w, g.p + xs.length, g.q⟩ := by rw [ptG, if_neg hle]
    rw [e] at h1 ⊢
    refine ev_cond false mlq (fun h => by cases h) (fun h => ev_skip (h1 _ ?_)); clear h1
    have w4 : IntKind.i64.wrap (g.p + (xs.length : Nat)) = g.p + (xs.length : Nat) := wrap_of (by omega) (by omega)
    refine ev_weak (σ' := ⟨[(0, .ptr (0, none) 0 0), (1, .list 1 (xs.map cB))], [(0, bG 400 g), (400, rM g.m)], 408⟩) (weak_ren [(400, 1)] mK (chkR_cons mK (chkRm rfl (by decide) rfl (fun _ => rfl) (fun a => by simp [okC]) trivial)) mD mQ) ?_
    refine ev_seq fun K1 h1 => ev_reg mB ?_
    repeat refine dr_act wN mb ma mc mT mR ?_
    refine dr_callR [400] [] wN mr mb mx (c107 g.m g.w hg.w.fits (wrap_of (by omega) (by omega))) (.ren rfl rfl (.ren rfl rfl .nil)) (hand1 mr) ⟨⟨by decide, nz⟩, Nat.le_of_ble_eq_true rfl⟩ (v := .ref (400, some (g.w.a.toNat, 0)) g.w.s.toNat g.w.n.toNat) rfl mT (wr1.trans mRd) ?_
    repeat refine dr_act wN mb ma mc mT mR ?_
    refine dr_slr g.p (g.w.n.toNat : Nat) wN mr mb ml mr (by omega) mr mr mS (by omega) mT ?_
    repeat refine dr_act wN mb ma mc mT mR ?_
    refine dr_cpr xs wN mr mb ml mr (by omega) (by simp only [En_nt, lookO, lookT, Nat.reduceEqDiff, Nat.reduceLT, ↓reduceIte]; rfl) mS (by simp only [Int.toNat_natCast]; omega) mT mRd fun z => ?_
    refine dr_nil ⟨fun _ => by kernel_rfl, h1 _ ?_⟩; clear h1
    rw [show g.w.s.toNat + g.p.toNat = (g.w.s + g.p).toNat by omega]
    refine ev_seq fun K1 h1 => ev_rf mB ?_
    repeat refine dr_act wN mb ma mc mT mR ?_
    rw [w4]
    refine dr_nil (h1 _ ?_); clear h1
    refine ev_seq fun K1 h1 => ev_rf mB ?_
    repeat refine dr_act wN mb ma mc mT mR ?_
    refine dr_nil (h1 _ (ev_ret ?_)); clear h1
    refine retRT [400] [4] (hR := ⟨⟨_, rfl, rfl, rfl, ?_⟩, ⟨_, rfl, rfl, rfl, rnMap (g := cR) (fun _ => rfl) _⟩, trivial⟩)
    simp only [bG, cG, Option.getD_some, wrM_length]; rfl
  have hgt := of_decide_eq_true hd
  have hcs := c147 g ((xs.length : Nat) - (g.q - g.p)) hg (by omega) (by omega)
  rcases hwd : wdG g ((xs.length : Nat) - (g.q - g.p)) with _ | v
  · have e : ptG g xs = none := by rw [ptG, if_pos hgt, hwd]
    rw [hwd] at hcs
    rw [e] at h1 h2 ⊢
    repeat refine dr_act wG mb ma mc mT mR ?_
    refine dr_callR [0, 1] [] wG mr mb mx hcs (.ren rfl rfl (.ren rfl rfl .nil)) (hand2 mr mr) ⟨⟨by decide, nz⟩, Nat.le_of_ble_eq_true rfl⟩ (v := vb false) rfl mT (wr3.trans mRd) ?_
    refine dr_act wG mb ma mc mT mR ?_
    repeat refine dr_act wN mb ma mc mT mR ?_
    refine dr_nil (h2 _ ?_); clear h2
    refine ev_cond true mlq (fun h => ?_) (fun h => by cases h)
    refine ev_seq fun K2 h2 => ev_rf mB ?_
    repeat refine dr_act wN mb ma mc mT mR ?_
    refine dr_nil (h2 _ (ev_ret ?_)); clear h2 h1
    exact retRT [154] [4] (hR := ⟨⟨_, rfl, rfl, rfl, rfl⟩, ⟨_, rfl, rfl, rfl, rnMap (g := cR) (fun _ => rfl) _⟩, trivial⟩)
  · have e : ptG g xs = some ⟨wrM v.m v.w.a.toNat (v.w.s + v.p).toNat xs, v.w, v.p + xs.length, v.q⟩ := by rw [ptG, if_pos hgt, hwd]
    obtain ⟨gv, vp, vq, vn⟩ := wdG_GG hg (by omega) hwd
    have k1 := gv.w.n1
    have k2 := gv.w.c1
    have k3 := gv.w.s0
    have k4 := gv.qn
    have k5 := gv.w.a0
    have k6 := gv.w.a1
    have k7 := gv.w.row
    rw [hwd] at hcs
    rw [e] at h1 h2 ⊢
    repeat refine dr_act wG mb ma mc mT mR ?_
    refine dr_callR [0, 1] [] wG mr mb mx hcs (.ren rfl rfl (.ren rfl rfl .nil)) (hand2 mr mr) ⟨⟨by decide, nz⟩, Nat.le_of_ble_eq_true rfl⟩ (v := vb true) rfl mT (wr3.trans mRd) ?_
    refine dr_act wG mb ma mc mT mR ?_
    repeat refine dr_act wN mb ma mc mT mR ?_
    refine dr_nil (h2 _ ?_); clear h2
    refine ev_cond false mlq (fun h => by cases h) (fun h => ev_skip (h1 _ ?_)); clear h1
    have w4 : IntKind.i64.wrap (v.p + (xs.length : Nat)) = v.p + (xs.length : Nat) := wrap_of (by omega) (by omega)
    refine ev_weak (σ' := ⟨[(0, .ptr (0, none) 0 0), (1, .list 1 (xs.map cB))], [(0, bG 400 v), (400, rM v.m)], 408⟩) (weak_ren [(400, 154)] mK (chkR_cons mK (chkRm rfl (by decide) rfl (fun _ => rfl) (fun a => by simp [okC]) trivial)) mD mQ) ?_
    refine ev_seq fun K1 h1 => ev_reg mB ?_
    repeat refine dr_act wN mb ma mc mT mR ?_
    refine dr_callR [400] [] wN mr mb mx (c107 v.m v.w gv.w.fits (wrap_of (by omega) (by omega))) (.ren rfl rfl (.ren rfl rfl .nil)) (hand1 mr) ⟨⟨by decide, nz⟩, Nat.le_of_ble_eq_true rfl⟩ (v := .ref (400, some (v.w.a.toNat, 0)) v.w.s.toNat v.w.n.toNat) rfl mT (wr1.trans mRd) ?_
    repeat refine dr_act wN mb ma mc mT mR ?_
    refine dr_slr v.p (v.w.n.toNat : Nat) wN mr mb ml mr (by omega) mr mr mS (by omega) mT ?_
    repeat refine dr_act wN mb ma mc mT mR ?_
    refine dr_cpr xs wN mr mb ml mr (by omega) (by simp only [En_nt, lookO, lookT, Nat.reduceEqDiff, Nat.reduceLT, ↓reduceIte]; rfl) mS (by simp only [Int.toNat_natCast]; omega) mT mRd fun z => ?_
    refine dr_nil ⟨fun _ => by kernel_rfl, h1 _ ?_⟩; clear h1
    rw [show v.w.s.toNat + v.p.toNat = (v.w.s + v.p).toNat by omega]
    refine ev_seq fun K1 h1 => ev_rf mB ?_
    repeat refine dr_act wN mb ma mc mT mR ?_
    rw [w4]
    refine dr_nil (h1 _ ?_); clear h1
    refine ev_seq fun K1 h1 => ev_rf mB ?_
    repeat refine dr_act wN mb ma mc mT mR ?_
    refine dr_nil (h1 _ (ev_ret ?_)); clear h1
    refine retRT [400] [4] (hR := ⟨⟨_, rfl, rfl, rfl, ?_⟩, ⟨_, rfl, rfl, rfl, rnMap (g := cR) (fun _ => rfl) _⟩, trivial⟩)
    simp only [bG, cG, Option.getD_some, wrM_length]; rfl
end Go.Ev
namespace Go.Ev
open Go Go.RowKit Go.Proofs

theorem rnR_bG1 {n0 n1 b : Nat} {g : Gp} : rnR (upN [n0, n1] b) (bG 1 g) = bG n1 g := rfl

/-- What a call leaves that is handed a gap and its memory, and changes both in place. -/
theorem wr2 {R : List (Nat × Root)} {n0 n1 b : Nat} {g : Gp} : applyW R (wrR [n0, n1] [] b [some (bG 1 g), some (rM g.m)]) = (n1, rM g.m) :: dropR ((n0, bG n1 g) :: dropR R n0) n1 := by
  simp only [wrR, newR, Option.map_some, rnR_bG1, rnR_rM, List.map_nil, List.nil_append]
  rfl

theorem c26 (g : Gp) (e : Ed) (hl1 : g.m.length ≤ 1048576) (hl2 : ∀ r, r ∈ g.m → r.length ≤ 1048576) (hx : e.s.length ≤ 1048576) : Good Try.prog 26 [eG g, eE e] (oGC (dE g e)) (rGC (dE g e)) := by
  refine good_of (E := En 38) (fn := Try.f26) (by kernel_rfl) (by kernel_rfl) rfl rfl (by simp only [List.length_cons, List.length_nil]; decide) (fun C0 => ?_)
  simp only [argT, Nat.reduceAdd]
  refine ev_seq fun K1 h1 => ev_rf mB ?_
  repeat refine dr_act wN mb ma mc mT mR ?_
  refine dr_nil (h1 _ ?_); clear h1 K1
  refine ev_seq fun K1 h1 => ?_
  refine ev_seq fun K2 h2 => ev_reg mB ?_
  repeat refine dr_act wN mb ma mc mT mR ?_
  refine dr_callF wN mr mb mx mr (c86 g hl1 hl2) (Nat.le_of_ble_eq_true rfl) mv mT mN ?_
  cases hG : okG g
  · have hn : dE g e = none := by rw [dE, if_neg (by rw [hG]; decide)]
    rw [hn] at h1 h2 ⊢
    repeat refine dr_act wN mb ma mc mT mR ?_
    iterate 5 refine dr_skip wG mT ?_
    repeat refine dr_act wN mb ma mc mT mR ?_
    refine dr_nil ⟨fun _ => by kernel_rfl, h2 _ ?_⟩; clear h2
    refine ev_cond true mlq (fun h => ?_) (fun h => by cases h)
    refine ev_seq fun K2 h2 => ev_rf mB ?_
    repeat refine dr_act wN mb ma mc mT mR ?_
    refine dr_nil (h2 _ (ev_ret ?_)); clear h2 h1
    exact retL [] (res' := [.cell 4 34, .tmp 5, .tmp 6]) mr (.cell nT mZ ma mc mP (.tmp nT mL (.tmp nT mL .nil))) rfl mr (by decide) trivial
  have hg := okG_GG hG
  have hwn := hg.w.c64
  have hwn1 := hg.w.n1
  have hwn0 := hg.w.n0
  have hq := hg.qn
  have hp0 := hg.p0
  have hpq := hg.pq
  have hlg : lgG g = g.w.n - (g.q - g.p) := rfl
  have w1 : w64 (g.w.n - w64 (g.q - g.p)) = lgG g := by
    have : w64 (g.q - g.p) = g.q - g.p := wrap_of (by omega) (by omega)
    rw [this]; exact wrap_of (by omega) (by omega)
  repeat refine dr_act wN mb ma mc mT mR ?_
  repeat refine dr_act wG mb ma mc mT mR ?_
  refine dr_callF wG mr mb mx mr (c92 g) (Nat.le_of_ble_eq_true rfl) mv mT mN ?_
  rw [w1]
  refine dr_callF wG mr mb mx mr (c91 e (lgG g)) (Nat.le_of_ble_eq_true rfl) mv mT mN ?_
  cases hA : decide (0 ≤ e.at_ ∧ e.at_ ≤ lgG g)
  · have hn : dE g e = none := by rw [dE, if_pos hG, edG, if_neg fun h => of_decide_eq_false hA h.1]
    rw [hn] at h1 h2 ⊢
    refine dr_act wG mb ma mc mT mR ?_
    repeat refine dr_act wN mb ma mc mT mR ?_
    refine dr_nil ⟨fun _ => by kernel_rfl, h2 _ ?_⟩; clear h2
    refine ev_cond true mlq (fun h => ?_) (fun h => by cases h)
    refine ev_seq fun K2 h2 => ev_rf mB ?_
    repeat refine dr_act wN mb ma mc mT mR ?_
    refine dr_nil (h2 _ (ev_ret ?_)); clear h2 h1
    exact retL [] (res' := [.cell 4 34, .tmp 5, .tmp 6]) mr (.cell nT mZ ma mc mP (.tmp nT mL (.tmp nT mL .nil))) rfl mr (by decide) trivial
  have ha := of_decide_eq_true hA
  have w2 : w64 (lgG g - e.at_) = lgG g - e.at_ := wrap_of (by omega) (by omega)
  rw [w2]
  cases hB : decide (0 ≤ e.n ∧ e.n ≤ lgG g - e.at_)
  · have hn : dE g e = none := by rw [dE, if_pos hG, edG, if_neg fun h => of_decide_eq_false hB h.2]
    rw [hn] at h1 h2 ⊢
    refine dr_act wG mb ma mc mT mR ?_
    repeat refine dr_act wN mb ma mc mT mR ?_
    refine dr_nil ⟨fun _ => by kernel_rfl, h2 _ ?_⟩; clear h2
    refine ev_cond true mlq (fun h => ?_) (fun h => by cases h)
    refine ev_seq fun K2 h2 => ev_rf mB ?_
    repeat refine dr_act wN mb ma mc mT mR ?_
    refine dr_nil (h2 _ (ev_ret ?_)); clear h2 h1
    exact retL [] (res' := [.cell 4 34, .tmp 5, .tmp 6]) mr (.cell nT mZ ma mc mP (.tmp nT mL (.tmp nT mL .nil))) rfl mr (by decide) trivial
  have hb := of_decide_eq_true hB
  refine dr_act wG mb ma mc mT mR ?_
  repeat refine dr_act wN mb ma mc mT mR ?_
  refine dr_nil ⟨fun _ => by kernel_rfl, h2 _ ?_⟩; clear h2
  refine ev_cond false mlq (fun h => by cases h) (fun h => ev_skip (h1 _ ?_)); clear h1
  obtain ⟨gv, vp, vq, vw⟩ := mvG_GG hg ha.1 ha.2
  have hcm := c93 g e.at_ hg ha.1 ha.2
  rw [dE, if_pos hG, edG, if_pos ⟨ha, hb⟩]
  generalize mvG g e.at_ = v at *
  generalize mvC g e.at_ = cst at *
  have w3 : IntKind.i64.wrap (v.q + e.n) = v.q + e.n := wrap_of (by omega) (by omega)
  have hgp : GG ⟨v.m, v.w, v.p, v.q + e.n⟩ := ⟨gv.w, gv.p0, by show v.p ≤ v.q + _; omega, by show v.q + e.n ≤ v.w.n; rw [vw]; omega⟩
  have hcp := c88 ⟨v.m, v.w, v.p, v.q + e.n⟩ e.s hgp hx
  refine ev_seq fun K1 h1 => ev_rf mB ?_
  repeat refine dr_act wN mb ma mc mT mR ?_
  refine dr_callF wN mr mb mx mr (c87 g hl1 hl2) (Nat.le_of_ble_eq_true rfl) mv mT mN ?_
  repeat refine dr_act wN mb ma mc mT mR ?_
  refine dr_nil (h1 _ ?_); clear h1
  refine ev_seq fun K1 h1 => ev_rf mB ?_
  repeat refine dr_act wN mb ma mc mT mR ?_
  refine dr_callR [136, 128] [] wN mr mb mx hcm (.ren rfl rfl (.ren rfl rfl .nil)) (hand2 mr mr) ⟨⟨by decide, nz⟩, Nat.le_of_ble_eq_true rfl⟩ (v := vi cst) rfl mT (wr2.trans mRd) ?_
  repeat refine dr_act wN mb ma mc mT mR ?_
  refine dr_nil (h1 _ ?_); clear h1
  refine ev_seq fun K1 h1 => ev_rf mB ?_
  repeat refine dr_act wN mb ma mc mT mR ?_
  rw [w3]
  refine dr_nil (h1 _ ?_); clear h1
  rcases hpt : ptG ⟨v.m, v.w, v.p, v.q + e.n⟩ e.s with _ | r
  · rw [hpt] at hcp
    simp only []
    refine ev_seq fun K1 h1 => ?_
    refine ev_seq fun K2 h2 => ev_rf mB ?_
    repeat refine dr_act wN mb ma mc mT mR ?_
    refine dr_callR [136, 128] [] wN mr mb mx hcp (.ren rfl rfl (.ren rfl rfl .nil)) (hand2 mr mr) ⟨⟨by decide, nz⟩, Nat.le_of_ble_eq_true rfl⟩ (v := vb false) rfl mT (wr3.trans mRd) ?_
    repeat refine dr_act wN mb ma mc mT mR ?_
    refine dr_nil (h2 _ ?_); clear h2
    refine ev_cond true mlq (fun h => ?_) (fun h => by cases h)
    refine ev_seq fun K2 h2 => ev_rf mB ?_
    repeat refine dr_act wN mb ma mc mT mR ?_
    refine dr_nil (h2 _ (ev_ret ?_)); clear h2 h1
    exact retL [] (res' := [.cell 4 34, .tmp 5, .tmp 6]) mr (.cell nT mZ ma mc mP (.tmp nT mL (.tmp nT mL .nil))) rfl mr (by decide) trivial
  · rw [hpt] at hcp
    simp only []
    refine ev_seq fun K1 h1 => ?_
    refine ev_seq fun K2 h2 => ev_rf mB ?_
    repeat refine dr_act wN mb ma mc mT mR ?_
    refine dr_callR [136, 128] [] wN mr mb mx hcp (.ren rfl rfl (.ren rfl rfl .nil)) (hand2 mr mr) ⟨⟨by decide, nz⟩, Nat.le_of_ble_eq_true rfl⟩ (v := vb true) rfl mT (wr3.trans mRd) ?_
    repeat refine dr_act wN mb ma mc mT mR ?_
    refine dr_nil (h2 _ ?_); clear h2
    refine ev_cond false mlq (fun h => by cases h) (fun h => ev_skip (h1 _ ?_)); clear h1
    refine ev_seq fun K1 h1 => ev_rf mB ?_
    repeat refine dr_act wN mb ma mc mT mR ?_
    refine dr_nil (h1 _ (ev_ret ?_)); clear h1
    exact retL [256] (res' := [.cell 4 34, .tmp 5, .tmp 6]) mr (.cell nT mZ ma mc mP (.tmp nT mL (.tmp nT mL .nil))) rfl mr (by decide) ⟨⟨mr, okRM⟩, trivial⟩
end Go.Ev
namespace Go.Ev
open Go Go.RowKit Go.Proofs

theorem c4 (g : Gp) (e : Ed) (hl : Len g.m) (hx : e.s.length ≤ maxLen) : Good Try.prog 4 [eG g, eE e] (vb true) [] := by
  refine good_of (E := En 140) (fn := Try.f4) (by kernel_rfl) (by kernel_rfl) rfl rfl (by simp only [List.length_cons, List.length_nil]; decide) (fun C0 => ?_)
  simp only [argT, Nat.reduceAdd]
  iterate 2
    refine ev_seq fun K1 h1 => ev_rf mB ?_
    repeat refine dr_act wN mb ma mc mT mR ?_
    refine dr_nil (h1 _ ?_); clear h1 K1
  refine ev_seq fun K1 h1 => ev_rf mB ?_
  repeat refine dr_act wN mb ma mc mT mR ?_
  refine dr_callF wN mr mb mx mr (c13 g 1048576 hl ⟨by decide, by decide⟩) (Nat.le_of_ble_eq_true rfl) mv mT mN ?_
  repeat refine dr_act wN mb ma mc mT mR ?_
  refine dr_nil (h1 _ ?_); clear h1
  refine ev_seq fun K1 h1 => ?_
  refine ev_seq fun K2 h2 => ev_rf mB ?_
  repeat refine dr_act wN mb ma mc mT mR ?_
  refine dr_nil (h2 _ ?_); clear h2
  refine ev_cond _ ml (fun h => ?_) (fun h => ev_skip (h1 _ ?_)) <;> clear h1
  · refine ev_seq fun K2 h2 => ev_rf mB ?_
    repeat refine dr_act wN mb ma mc mT mR ?_
    refine dr_nil (h2 _ (ev_ret ?_)); clear h2
    exact retT [4] (hv := rfl)
  have hk0 := of_decide_eq_false h
  obtain ⟨hm1, hm2, hm3⟩ := szM_bound (m := g.m) (by omega)
  have hk1 : 0 ≤ szM g.m 1048576 ∧ szM g.m 1048576 ≤ 1048576 := by
    rcases szM_le g.m 1048576 (by decide) with h | h <;> omega
  generalize szM g.m 1048576 = k1 at *
  clear h
  refine ev_seq fun K1 h1 => ev_rf mB ?_
  repeat refine dr_act wN mb ma mc mT mR ?_
  refine dr_callF wN mr mb mx mr (c23 e k1 hx hk1) (Nat.le_of_ble_eq_true rfl) mv mT mN ?_
  repeat refine dr_act wN mb ma mc mT mR ?_
  refine dr_nil (h1 _ ?_); clear h1
  refine ev_seq fun K1 h1 => ?_
  refine ev_seq fun K2 h2 => ev_rf mB ?_
  repeat refine dr_act wN mb ma mc mT mR ?_
  refine dr_nil (h2 _ ?_); clear h2
  refine ev_cond _ ml (fun h => ?_) (fun h => ev_skip (h1 _ ?_)) <;> clear h1
  · refine ev_seq fun K2 h2 => ev_rf mB ?_
    repeat refine dr_act wN mb ma mc mT mR ?_
    refine dr_nil (h2 _ (ev_ret ?_)); clear h2
    exact retT [4] (hv := rfl)
  have hs := of_decide_eq_false h
  have he : e.s.length ≤ 1048576 := by
    unfold sz1 at hs
    split at hs <;> omega
  clear h hs
  have hu24 := uni (c24 g e hm1 hm2 he)
  have hu26 := uni (c26 g e hm1 hm2 he)
  have hgm := dR_GM g e
  obtain ⟨⟨r, c, ok⟩, hdr⟩ : ∃ x, dR g e = x := ⟨_, rfl⟩
  rw [hdr] at hu24 hu26 hgm
  dsimp only at hu24 hu26 hgm
  clear hdr
  have hrt := hgm.tot
  have hrl := hgm.l
  have hlr : Len r.m := ⟨by simp only [maxLen]; omega, fun x hx => by have := hgm.r x hx; simp only [maxLen]; omega⟩
  have hcc : (c != c) = false := by simp
  have hoo : (!(ok == ok)) = false := by cases ok <;> rfl
  refine ev_weak (σ' := ⟨[(2, .ptr (0, none) 0 0), (3, .ptr (8, none) 0 0)], [(0, ⟨28, 7, [cG (eM g.m) g]⟩), (8, ⟨45, 3, [cE (eB e.s) e]⟩)], 200⟩) (weak_ren [] mK mK mD mQ) ?_
  refine ev_seq fun K1 h1 => ev_reg mB ?_
  repeat refine dr_act wN mb ma mc mT mR ?_
  refine dr_callF wN mr mb mx mr (c15 g hm1 hm2) (Nat.le_of_ble_eq_true rfl) mv mT mN ?_
  repeat refine dr_act wN mb ma mc mT mR ?_
  refine dr_callF wN mr mb mx mr (c25 e he) (Nat.le_of_ble_eq_true rfl) mv mT mN ?_
  refine dr_call wN mr mb mx (.cons (fG mr) (.cons (fE mr) .nil)) hu24 (Nat.le_of_ble_eq_true rfl) mv mT mN ?_
  repeat refine dr_act wN mb ma mc mT mR ?_
  refine dr_nil ⟨fun _ => by kernel_rfl, h1 _ ?_⟩; clear h1
  refine ev_seq fun K1 h1 => ev_rf mB ?_
  repeat refine dr_act wN mb ma mc mT mR ?_
  refine dr_callF wN mr mb mx mr (c15 g hm1 hm2) (Nat.le_of_ble_eq_true rfl) mv mT mN ?_
  repeat refine dr_act wN mb ma mc mT mR ?_
  refine dr_nil (h1 _ ?_); clear h1
  refine ev_seq fun K1 h1 => ev_rf mB ?_
  repeat refine dr_act wN mb ma mc mT mR ?_
  refine dr_callF wN mr mb mx mr (c25 e he) (Nat.le_of_ble_eq_true rfl) mv mT mN ?_
  repeat refine dr_act wN mb ma mc mT mR ?_
  refine dr_nil (h1 _ ?_); clear h1
  refine ev_seq fun K1 h1 => ev_rf mB ?_
  repeat refine dr_act wN mb ma mc mT mR ?_
  refine dr_call wN mr mb mx (.cons (fG mr) (.cons (fE mr) .nil)) hu26 (Nat.le_of_ble_eq_true rfl) mv mT mN ?_
  repeat refine dr_act wN mb ma mc mT mR ?_
  refine dr_nil (h1 _ ?_); clear h1
  refine ev_weak (σ' := ⟨[(2, .ptr (0, none) 0 0), (3, .ptr (8, none) 0 0), (6, .ptr (272, none) 0 0), (7, vi c), (8, vb ok), (9, .ptr (320, none) 0 0), (10, .ptr (352, none) 0 0), (11, .ptr (424, none) 0 0), (12, vi c), (13, vb ok)], [(0, ⟨28, 7, [cG (eM g.m) g]⟩), (8, ⟨45, 3, [cE (eB e.s) e]⟩), (272, bG 232 r), (320, bG 312 g), (352, ⟨49, 3, [cE (.ref (344, none) 0 e.s.length) e]⟩), (424, bG 384 r), (232, rM r.m), (312, rM g.m), (344, rB 5 e.s), (384, rM r.m)], 456⟩) (weak_ren [] mK (chkR_cons mK (chkR_cons mK (chkR_cons mK (chkR_cons mK (chkR_cons mK (chkR_cons mK (chkRm rfl (by decide) rfl (fun _ => rfl) (fun a => by simp [okC]) (chkRm rfl (by decide) rfl (fun _ => rfl) (fun a => by simp [okC]) (chkRm rfl (by decide) rfl (fun _ => rfl) (fun a => by simp [okC]) (chkRm rfl (by decide) rfl (fun _ => rfl) (fun a => by simp [okC]) trivial)))))))))) mD mQ) ?_
  refine ev_seq fun K1 h1 => ?_
  refine ev_seq fun K2 h2 => ev_rf mB ?_
  repeat refine dr_act wN mb ma mc mT mR ?_
  refine dr_call wN mr mb mx (.cons (fG mr) (.cons (fG mr) .nil)) (c18 r r hlr) (Nat.le_of_ble_eq_true rfl) mv mT mN ?_
  rw [qG_self]
  repeat refine dr_act wN mb ma mc mT mR ?_
  iterate 3 refine dr_act wG mb ma mc mT mR ?_
  rw [hcc]
  refine dr_act wN mb ma mc mT mR ?_
  refine dr_act wN mb ma mc mT mR ?_
  iterate 3 refine dr_act wG mb ma mc mT mR ?_
  rw [hoo]
  repeat refine dr_act wN mb ma mc mT mR ?_
  refine dr_nil (h2 _ ?_); clear h2
  refine ev_cond false mlq (fun h => by cases h) (fun h => ev_skip (h1 _ ?_)); clear h1
  refine ev_seq fun K1 h1 => ?_
  refine ev_seq fun K2 h2 => ev_reg mB ?_
  repeat refine dr_act wN mb ma mc mT mR ?_
  refine dr_callF wN mr mb mx mr (c15 g hm1 hm2) (Nat.le_of_ble_eq_true rfl) mv mT mN ?_
  refine dr_call wN mr mb mx (.cons (fG mr) (.cons (fG mr) .nil)) (c18 g g hl) (Nat.le_of_ble_eq_true rfl) mv mT mN ?_
  rw [qG_self]
  repeat refine dr_act wN mb ma mc mT mR ?_
  refine dr_nil ⟨fun _ => by kernel_rfl, h2 _ ?_⟩; clear h2
  refine ev_cond false mlq (fun h => by cases h) (fun h => ev_skip (h1 _ ?_)); clear h1
  refine ev_seq fun K1 h1 => ?_
  refine ev_seq fun K2 h2 => ev_reg mB ?_
  repeat refine dr_act wN mb ma mc mT mR ?_
  refine dr_callF wN mr mb mx mr (c25 e he) (Nat.le_of_ble_eq_true rfl) mv mT mN ?_
  refine dr_call wN mr mb mx (.cons (fE mr) (.cons (fE mr) .nil)) (c27 e e hx) (Nat.le_of_ble_eq_true rfl) mv mT mN ?_
  rw [qE_self]
  repeat refine dr_act wN mb ma mc mT mR ?_
  refine dr_nil ⟨fun _ => by kernel_rfl, h2 _ ?_⟩; clear h2
  refine ev_cond false mlq (fun h => by cases h) (fun h => ev_skip (h1 _ ?_)); clear h1
  refine ev_seq fun K1 h1 => ev_rf mB ?_
  repeat refine dr_act wN mb ma mc mT mR ?_
  refine dr_nil (h1 _ ?_); clear h1
  refine ev_seq fun K1 h1 => ev_rf mB ?_
  repeat refine dr_act wN mb ma mc mT mR ?_
  refine dr_callR [312] [] wN mr mb mx (c20 g 1 hm1 (by decide) (by omega)) (.ren rfl rfl (.ren rfl rfl .nil)) (hand1 mr) ⟨⟨by decide, nz⟩, Nat.le_of_ble_eq_true rfl⟩ (v := vi (1 + tot g.m)) rfl mT (wr1.trans mRd) ?_
  repeat refine dr_act wN mb ma mc mT mR ?_
  refine dr_nil (h1 _ ?_); clear h1
  refine ev_seq fun K1 h1 => ev_rf mB ?_
  repeat refine dr_act wN mb ma mc mT mR ?_
  refine dr_callR [344] [] wN mr mb mx (c28 5 e (1 + tot g.m) he (by omega) (by omega)) (.ren rfl rfl (.ren rfl rfl .nil)) (handB mr) ⟨⟨by decide, nz⟩, Nat.le_of_ble_eq_true rfl⟩ (v := vi (1 + tot g.m + e.s.length)) rfl mT (wrB.trans mRd) ?_
  repeat refine dr_act wN mb ma mc mT mR ?_
  refine dr_nil (h1 _ ?_); clear h1
  have hkk : decide ((1 + (tot g.m : Nat) + (e.s.length : Nat) : Int) < 0) = false := decide_eq_false (by omega)
  refine ev_weak (σ' := ⟨[(2, .ptr (0, none) 0 0), (3, .ptr (8, none) 0 0), (6, .ptr (272, none) 0 0), (7, vi c), (8, vb ok), (11, .ptr (424, none) 0 0), (12, vi c), (13, vb ok), (14, vi (1 + tot g.m + e.s.length))], [(0, ⟨28, 7, [cG (eM g.m) g]⟩), (8, ⟨45, 3, [cE (eB e.s) e]⟩), (272, bG 232 r), (424, bG 384 r), (232, rM r.m), (384, rM r.m)], 1000⟩) (weak_ren [] mK (chkR_cons mK (chkR_cons mK (chkR_cons mK (chkR_cons mK (chkRm rfl (by decide) rfl (fun _ => rfl) (fun a => by simp [okC]) (chkRm rfl (by decide) rfl (fun _ => rfl) (fun a => by simp [okC]) trivial)))))) mD mQ) ?_
  refine ev_seq fun K1 h1 => ?_
  refine ev_seq fun K2 h2 => ev_rf mB ?_
  refine dr_act wN mb ma mc mT mR ?_
  refine dr_act wN mb ma mc mT mR ?_
  refine dr_act wN mb ma mc mT mR ?_
  rw [hkk]
  iterate 2 refine dr_act wG mb ma mc mT mR ?_
  refine dr_call wG mr mb mx (.cons (fG mr) (.cons (fG mr) .nil)) (c18 r r hlr) (Nat.le_of_ble_eq_true rfl) mv mT mN ?_
  rw [qG_self]
  refine dr_act wG mb ma mc mT mR ?_
  repeat refine dr_act wN mb ma mc mT mR ?_
  iterate 3 refine dr_act wG mb ma mc mT mR ?_
  rw [hcc]
  refine dr_act wN mb ma mc mT mR ?_
  refine dr_act wN mb ma mc mT mR ?_
  iterate 3 refine dr_act wG mb ma mc mT mR ?_
  rw [hoo]
  repeat refine dr_act wN mb ma mc mT mR ?_
  refine dr_nil (h2 _ ?_); clear h2
  refine ev_cond false mlq (fun h => by cases h) (fun h => ev_skip (h1 _ ?_)); clear h1
  have hhd : Good Try.prog 22 [eG ⟨mkM 1 r.m, r.w, r.p, r.q⟩, vi 1] (vi (1 + tot r.m)) [] := by
    have h := c22 ⟨mkM 1 r.m, r.w, r.p, r.q⟩ 1 (by decide) (by simp only [mkM_tot]; omega) (by simp only [mkM_length]; omega)
    have e : hdM (mkM 1 r.m) 1 = 1 + tot r.m := by rw [hdM, mkM_mkM, if_pos rfl, mkM_tot]
    rw [e] at h
    exact h
  refine ev_seq fun K1 h1 => ev_rf mB ?_
  repeat refine dr_act wN mb ma mc mT mR ?_
  refine dr_nil (h1 _ ?_); clear h1
  refine ev_seq fun K1 h1 => ev_rf mB ?_
  repeat refine dr_act wN mb ma mc mT mR ?_
  refine dr_callR [384] [] wN mr mb mx (c20 r 1 (by omega) (by decide) (by omega)) (.ren rfl rfl (.ren rfl rfl .nil)) (hand1 mr) ⟨⟨by decide, nz⟩, Nat.le_of_ble_eq_true rfl⟩ (v := vi (1 + tot r.m)) rfl mT (wr1.trans mRd) ?_
  repeat refine dr_act wN mb ma mc mT mR ?_
  refine dr_nil (h1 _ ?_); clear h1
  refine ev_seq fun K1 h1 => ev_rf mB ?_
  repeat refine dr_act wN mb ma mc mT mR ?_
  refine dr_nil (h1 _ ?_); clear h1
  refine ev_seq fun K1 h1 => ev_rf mB ?_
  repeat refine dr_act wN mb ma mc mT mR ?_
  refine dr_call wN mr mb mx (.cons (.agg (.cons (fM mr (mkM_length 1 r.m).symm) (.cons (fn rfl) (.cons (fn rfl) (.cons (fn rfl) (.cons (fn rfl) (.cons (fn rfl) (.cons (fn rfl) .nil)))))))) (.cons (fN rfl) .nil)) hhd (Nat.le_of_ble_eq_true rfl) mv mT mN ?_
  repeat refine dr_act wN mb ma mc mT mR ?_
  refine dr_nil (h1 _ ?_); clear h1
  refine ev_seq fun K1 h1 => ?_
  refine ev_seq fun K2 h2 => ev_rf mB ?_
  repeat refine dr_act wN mb ma mc mT mR ?_
  refine dr_nil (h2 _ ?_); clear h2
  refine ev_cond _ ml (fun h => absurd (of_decide_eq_true h) (by omega)) (fun h => ev_skip (h1 _ ?_)); clear h1 h
  refine ev_seq fun K1 h1 => ?_
  refine ev_seq fun K2 h2 => ev_rf mB ?_
  repeat refine dr_act wN mb ma mc mT mR ?_
  refine dr_nil (h2 _ ?_); clear h2
  refine ev_cond _ ml (fun h => by simp at h) (fun h => ev_skip (h1 _ ?_)); clear h1 h
  refine ev_weak (σ' := ⟨[(2, .ptr (0, none) 0 0), (3, .ptr (8, none) 0 0), (6, .ptr (272, none) 0 0), (7, vi c), (8, vb ok), (11, .ptr (424, none) 0 0), (15, vi (1 + tot r.m))], [(0, ⟨28, 7, [cG (eM g.m) g]⟩), (8, ⟨45, 3, [cE (eB e.s) e]⟩), (272, bG 232 r), (424, bG 384 r), (232, rM r.m), (384, rM (mkM 1 r.m))], 2000⟩) (weak_ren [] mK (chkR_cons mK (chkR_cons mK (chkR_cons mK (chkR_cons mK (chkRm rfl (by decide) rfl (fun _ => rfl) (fun a => by simp [okC]) (chkRm rfl (by decide) rfl (fun _ => rfl) (fun a => by simp [okC]) trivial)))))) mD mQ) ?_
  refine ev_seq fun K1 h1 => ev_reg mB ?_
  repeat refine dr_act wN mb ma mc mT mR ?_
  refine dr_callF wN mr mb mx mr (c15 g hm1 hm2) (Nat.le_of_ble_eq_true rfl) mv mT mN ?_
  repeat refine dr_act wN mb ma mc mT mR ?_
  refine dr_callF wN mr mb mx mr (c25 e he) (Nat.le_of_ble_eq_true rfl) mv mT mN ?_
  refine dr_call wN mr mb mx (.cons (fG mr) (.cons (fE mr) .nil)) hu26 (Nat.le_of_ble_eq_true rfl) mv mT mN ?_
  repeat refine dr_act wN mb ma mc mT mR ?_
  refine dr_nil ⟨fun _ => by kernel_rfl, h1 _ ?_⟩; clear h1
  refine ev_seq fun K1 h1 => ?_
  refine ev_seq fun K2 h2 => ev_rf mB ?_
  repeat refine dr_act wN mb ma mc mT mR ?_
  refine dr_call wN mr mb mx (.cons (fG mr) (.cons (fG mr) .nil)) (c18 r r hlr) (Nat.le_of_ble_eq_true rfl) mv mT mN ?_
  rw [qG_self]
  repeat refine dr_act wN mb ma mc mT mR ?_
  iterate 3 refine dr_act wG mb ma mc mT mR ?_
  rw [hcc]
  refine dr_act wN mb ma mc mT mR ?_
  refine dr_act wN mb ma mc mT mR ?_
  iterate 3 refine dr_act wG mb ma mc mT mR ?_
  rw [hoo]
  repeat refine dr_act wN mb ma mc mT mR ?_
  refine dr_nil (h2 _ ?_); clear h2
  refine ev_cond false mlq (fun h => by cases h) (fun h => ev_skip (h1 _ ?_)); clear h1
  refine ev_seq fun K1 h1 => ev_rf mB ?_
  repeat refine dr_act wN mb ma mc mT mR ?_
  refine dr_nil (h1 _ ?_); clear h1
  refine ev_seq fun K1 h1 => ev_rf mB ?_
  repeat refine dr_act wN mb ma mc mT mR ?_
  refine dr_call wN mr mb mx (.cons (.agg (.cons (fM mr (mkM_length 1 r.m).symm) (.cons (fn rfl) (.cons (fn rfl) (.cons (fn rfl) (.cons (fn rfl) (.cons (fn rfl) (.cons (fn rfl) .nil)))))))) (.cons (fN rfl) .nil)) hhd (Nat.le_of_ble_eq_true rfl) mv mT mN ?_
  repeat refine dr_act wN mb ma mc mT mR ?_
  refine dr_nil (h1 _ ?_); clear h1
  refine ev_seq fun K1 h1 => ?_
  refine ev_seq fun K2 h2 => ev_rf mB ?_
  repeat refine dr_act wN mb ma mc mT mR ?_
  refine dr_nil (h2 _ ?_); clear h2
  refine ev_cond _ ml (fun h => absurd (of_decide_eq_true h) (by omega)) (fun h => ev_skip (h1 _ ?_)); clear h1 h
  refine ev_seq fun K1 h1 => ?_
  refine ev_seq fun K2 h2 => ev_rf mB ?_
  repeat refine dr_act wN mb ma mc mT mR ?_
  refine dr_nil (h2 _ ?_); clear h2
  refine ev_cond _ ml (fun h => by simp at h) (fun h => ev_skip (h1 _ ?_)); clear h1 h
  refine ev_seq fun K1 h1 => ev_rf mB ?_
  repeat refine dr_act wN mb ma mc mT mR ?_
  refine dr_nil (h1 _ (ev_ret ?_)); clear h1
  exact retT [4] (hv := rfl)
end Go.Ev
namespace Go.Ev
open Go Go.RowKit Go.Proofs

/-- A stretch with i of its bytes turned at either end. -/
def revS (xs : List Int) (i : Nat) : List Int := xs.reverse.take i ++ (xs.drop i).take (xs.length - 2 * i) ++ xs.reverse.drop (xs.length - i)
theorem revS_len {xs : List Int} {i : Nat} (h : 2 * i ≤ xs.length) : (revS xs i).length = xs.length := by
  simp only [revS, List.length_append, List.length_take, List.length_drop, List.length_reverse]; omega
theorem revS_get {xs : List Int} {i : Nat} (h : 2 * i ≤ xs.length) (k : Nat) : (revS xs i)[k]? = if k < i ∨ (xs.length - i ≤ k ∧ k < xs.length) then xs[xs.length - 1 - k]? else xs[k]? := by
  unfold revS
  by_cases h1 : k < i
  · rw [if_pos (.inl h1), List.append_assoc, List.getElem?_append_left (by simp only [List.length_take, List.length_reverse]; omega), List.getElem?_take, if_pos h1, List.getElem?_reverse (by omega)]
  · by_cases h2 : k < xs.length - i
    · rw [if_neg (by omega), List.getElem?_append_left (by simp only [List.length_append, List.length_take, List.length_drop, List.length_reverse]; omega), List.getElem?_append_right (by simp only [List.length_take, List.length_reverse]; omega), List.getElem?_take, List.getElem?_drop, if_pos (by simp only [List.length_take, List.length_reverse]; omega)]
      congr 1
      simp only [List.length_take, List.length_reverse]; omega
    · rw [List.getElem?_append_right (by simp only [List.length_append, List.length_take, List.length_drop, List.length_reverse]; omega), List.getElem?_drop]
      by_cases h3 : k < xs.length
      · rw [if_pos (by omega)]
        have e : xs.length - i + (k - (List.take i xs.reverse ++ List.take (xs.length - 2 * i) (List.drop i xs)).length) = k := by
          simp only [List.length_append, List.length_take, List.length_drop, List.length_reverse]; omega
        rw [e, List.getElem?_reverse h3]
      · rw [if_neg (by omega), List.getElem?_eq_none (by simp only [List.length_append, List.length_take, List.length_drop, List.length_reverse]; omega), List.getElem?_eq_none (by omega)]
theorem revS_zero {xs : List Int} : revS xs 0 = xs := by simp [revS]
theorem revS_end {xs : List Int} {i : Nat} (h : 2 * i ≤ xs.length) (h2 : xs.length ≤ 2 * i + 1) : revS xs i = xs.reverse := by
  apply List.ext_getElem?
  intro k
  rw [revS_get h]
  by_cases hk : k < xs.length
  · rw [List.getElem?_reverse hk]
    split
    · rfl
    · congr 1; omega
  · rw [if_neg (by omega), List.getElem?_eq_none (by omega), List.getElem?_eq_none (by rw [List.length_reverse]; omega)]
theorem ovr_get {r xs : List Int} {s : Nat} (h : s + xs.length ≤ r.length) (k : Nat) : (ovr r s xs)[k]? = if s ≤ k ∧ k < s + xs.length then xs[k - s]? else r[k]? := by
  unfold ovr
  by_cases h1 : k < s
  · rw [List.append_assoc, List.getElem?_append_left (by rw [List.length_take]; omega), List.getElem?_take, if_pos h1, if_neg (by omega)]
  · by_cases h2 : k < s + xs.length
    · rw [if_pos (by omega), List.getElem?_append_left (by simp only [List.length_append, List.length_take]; omega), List.getElem?_append_right (by rw [List.length_take]; omega), List.length_take, Nat.min_eq_left (by omega)]
    · rw [if_neg (by omega), List.getElem?_append_right (by simp only [List.length_append, List.length_take]; omega), List.getElem?_drop]
      congr 1
      simp only [List.length_append, List.length_take]; omega
theorem ovr_len {r xs : List Int} {s : Nat} (h : s + xs.length ≤ r.length) : (ovr r s xs).length = r.length := by
  simp only [ovr, List.length_append, List.length_take, List.length_drop]; omega
theorem wrM_row {m : List (List Int)} {a s : Nat} {xs : List Int} (h : a < m.length) : (wrM m a s xs).getD a [] = ovr (m.getD a []) s xs := by
  simp [wrM, List.getD_eq_getElem?_getD, h]
theorem seg_len {r : List Int} {off len : Nat} (h : off + len ≤ r.length) : ((r.drop off).take len).length = len := by rw [List.length_take, List.length_drop]; omega
/-- One exchange of two bytes. -/
theorem rev_step {m : List (List Int)} {a off i : Nat} {xs : List Int} {x y : Int} (ha : a < m.length) (hs : off + xs.length ≤ (m.getD a []).length) (h2 : 2 * i + 1 < xs.length) (hx : x = ((wrM m a off (revS xs i)).getD a []).getD (off + (xs.length - 1 - i)) 0) (hy : y = ((wrM m a off (revS xs i)).getD a []).getD (off + i) 0) :
    wrM (wrM (wrM m a off (revS xs i)) a (off + i) [x]) a (off + (xs.length - 1 - i)) [y] = wrM m a off (revS xs (i + 1)) := by
  have hl : (revS xs i).length = xs.length := revS_len (by omega)
  have hl1 : (revS xs (i + 1)).length = xs.length := revS_len (by omega)
  rw [wrM_row ha] at hx hy
  have gx : (ovr (m.getD a []) off (revS xs i))[off + (xs.length - 1 - i)]? = xs[xs.length - 1 - i]? := by
    rw [ovr_get (by omega), if_pos (by omega), Nat.add_sub_cancel_left, revS_get (by omega), if_neg (by omega)]
  have gy : (ovr (m.getD a []) off (revS xs i))[off + i]? = xs[i]? := by
    rw [ovr_get (by omega), if_pos (by omega), Nat.add_sub_cancel_left, revS_get (by omega), if_neg (by omega)]
  rw [List.getD_eq_getElem?_getD, gx, List.getElem?_eq_getElem (by omega)] at hx
  rw [List.getD_eq_getElem?_getD, gy, List.getElem?_eq_getElem (by omega)] at hy
  simp only [Option.getD_some] at hx hy
  have ha2 : a < (wrM m a off (revS xs i)).length := by rw [wrM_len]; exact ha
  have r1 := ovr_len (r := m.getD a []) (s := off) (xs := revS xs i) (by omega)
  have r2 := ovr_len (r := ovr (m.getD a []) off (revS xs i)) (s := off + i) (xs := [x]) (by rw [r1]; simp only [List.length_cons, List.length_nil]; omega)
  have key : ovr (ovr (ovr (m.getD a []) off (revS xs i)) (off + i) [x]) (off + (xs.length - 1 - i)) [y] = ovr (m.getD a []) off (revS xs (i + 1)) := by
    apply List.ext_getElem?
    intro k
    rw [ovr_get (by rw [r2, r1]; simp only [List.length_cons, List.length_nil]; omega), ovr_get (by rw [r1]; simp only [List.length_cons, List.length_nil]; omega), ovr_get (by omega), ovr_get (by omega), revS_get (by omega), revS_get (by omega), hl, hl1]
    simp only [List.length_cons, List.length_nil, Nat.zero_add]
    by_cases c1 : off + (xs.length - 1 - i) ≤ k ∧ k < off + (xs.length - 1 - i) + 1
    · obtain rfl : k = off + (xs.length - 1 - i) := by omega
      rw [if_pos c1, Nat.sub_self, if_pos (by omega), if_pos (by omega), hy]
      simp only [List.getElem?_cons_zero]
      rw [show xs.length - 1 - (off + (xs.length - 1 - i) - off) = i by omega, List.getElem?_eq_getElem (by omega)]
    · rw [if_neg c1]
      by_cases c2 : off + i ≤ k ∧ k < off + i + 1
      · obtain rfl : k = off + i := by omega
        rw [if_pos c2, Nat.sub_self, if_pos (by omega), if_pos (by omega), hx]
        simp only [List.getElem?_cons_zero]
        rw [show xs.length - 1 - (off + i - off) = xs.length - 1 - i by omega, List.getElem?_eq_getElem (by omega)]
      · rw [if_neg c2]
        by_cases c3 : off ≤ k ∧ k < off + xs.length
        · rw [if_pos c3, if_pos c3]
          by_cases c4 : k - off < i ∨ (xs.length - i ≤ k - off ∧ k - off < xs.length)
          · rw [if_pos c4, if_pos (by omega)]
          · rw [if_neg c4, if_neg (by omega)]
        · rw [if_neg c3, if_neg c3]
  have h1 : (wrM (wrM m a off (revS xs i)) a (off + i) [x]).getD a [] = ovr (ovr (m.getD a []) off (revS xs i)) (off + i) [x] := by rw [wrM_row ha2, wrM_row ha]
  rw [wrM, h1, key, wrM, wrM, wrM, List.set_set, List.set_set]
theorem rev_step' {m : List (List Int)} {a off i len : Nat} {xs : List Int} {x y : Int} (ha : a < m.length) (hs : off + len ≤ (m.getD a []).length) (hl : xs.length = len) (h2 : 2 * i + 1 < len) (hx : x = ((wrM m a off (revS xs i)).getD a []).getD (off + (len - 1 - i)) 0) (hy : y = ((wrM m a off (revS xs i)).getD a []).getD (off + i) 0) :
    wrM (wrM (wrM m a off (revS xs i)) a (off + i) [x]) a (off + (len - 1 - i)) [y] = wrM m a off (revS xs (i + 1)) := by
  subst hl; exact rev_step ha hs h2 hx hy
theorem set_getD {m : List (List Int)} {a : Nat} : m.set a (m.getD a []) = m := by
  apply List.ext_getElem?
  intro k
  rw [List.getElem?_set]
  split
  · rename_i e; subst e
    rw [List.getD_eq_getElem?_getD]
    split
    · rename_i h; rw [List.getElem?_eq_getElem h]; rfl
    · rename_i h; rw [List.getElem?_eq_none (by omega)]
  · rfl
theorem wrM_same {m : List (List Int)} {a off len : Nat} (h : off + len ≤ (m.getD a []).length) : wrM m a off (((m.getD a []).drop off).take len) = m := by
  have : ovr (m.getD a []) off (((m.getD a []).drop off).take len) = m.getD a [] := by
    apply List.ext_getElem?
    intro k
    have hl := seg_len h
    rw [ovr_get (by rw [hl]; exact h), hl]
    split
    · rw [List.getElem?_take, if_pos (by omega), List.getElem?_drop]; congr 1; omega
    · rfl
  rw [wrM, this, set_getD]
end Go.Ev
namespace Go.Ev
open Go Go.RowKit Go.Proofs

theorem c210 (m : List (List Int)) (a off len : Nat) (ha : a < m.length) (hr : off + len ≤ (m.getD a []).length) (h64 : len ≤ 1048576) : GoodR Try.prog 210 [.ref (0, some (a, 0)) off len] [rM m] (.tup []) [some (rM (wrM m a off (((m.getD a []).drop off).take len).reverse))] := by
  refine goodR_of (E := En 28 1) (fn := Try.f210) (by kernel_rfl) (by kernel_rfl) rfl rfl (by simp only [List.length_cons, List.length_nil]; decide) ⟨rfl, by simp only [List.length_cons, List.length_nil]; decide⟩ rfl ⟨(okMap (fun _ => by first | rfl | simp [okC]) _), trivial⟩ (fun C0 => ?_)
  simp only [argT, rsT, Nat.reduceAdd, List.length_cons, List.length_nil, eB, eM, eWS]
  have hl := seg_len hr
  generalize hxs : ((m.getD a []).drop off).take len = xs at *
  have hm : m = wrM m a off (revS xs 0) := by rw [revS_zero, ← hxs, wrM_same hr]
  refine ev_seq fun K1 h1 => ?_
  refine ev_rf mB ?_
  iterate 3 refine dr_act wN mb ma mc mT mR ?_
  rw [wrap_of (x := (len : Int) - 1) (by omega) (by omega)]
  iterate 2 refine dr_act wN mb ma mc mT mR ?_
  refine dr_nil (h1 _ ?_); clear h1
  rw [show ((len : Int) - 1) = (len : Int) - 1 - ((0 : Nat) : Int) from by omega]
  refine ev_block (ev_loop (α := {p : Nat // 2 * p ≤ len ∧ 0 ≤ p}) (fun p => ⟨[(0, .ref (0, some (a, 0)) off len), (2, vi (p.1 : Int)), (3, vi ((len : Int) - 1 - p.1))], [(0, ⟨29, 1, (wrM m a off (revS xs p.1)).map cR⟩)], 41⟩) (fun p => len - p.1) ⟨0, by omega, by omega⟩ (weak_ren [] mK (chkRm rfl (by decide) (congrArg (List.map cR) hm) (fun _ => rfl) (fun a => by first | rfl | simp [okC]) trivial) mD mQ) (fun ⟨i, hinv⟩ => ?_))
  dsimp only
  have hal : a < (wrM m a off (revS xs i)).length := by rw [wrM_len]; exact ha
  have hrl : ((wrM m a off (revS xs i)).getD a []).length = (m.getD a []).length := by rw [wrM_row ha, ovr_len (by rw [revS_len (by omega)]; omega)]
  have hal2 : ∀ b, a < (wrM (wrM m a off (revS xs i)) a (off + i) [b]).length := fun b => by rw [wrM_len]; exact hal
  refine ev_seq fun K1 h1 => ?_
  refine ev_seq fun K2 h2 => ?_
  refine ev_rf mB ?_
  iterate 3 refine dr_act wN mb ma mc mT mR ?_
  refine dr_nil (h2 _ ?_); clear h2
  cases hc1 : (decide ((i : Int) < ((len : Int) - 1 - i)))
  · have hc1 := of_decide_eq_false hc1
    refine ev_cond false mlq (fun h => by cases h) (fun h => ?_)
    refine ev_exit ?_
    simp only [seqK, loopK, blkK, Nat.reduceEqDiff, ↓reduceIte]
    have he := revS_end (xs := xs) (i := i) (by omega) (by omega)
    rw [he]
    exact retLR [] (res' := []) mr (.nil) rfl ⟨by decide, by decide⟩ rfl ⟨⟨_, mr, rfl, rfl, rnMap (fun _ => rfl) _⟩, trivial⟩
  have hc1 := of_decide_eq_true hc1
  refine ev_cond true mlq (fun h => ?_) (fun h => by cases h)
  refine ev_skip (h1 _ ?_); clear h1
  refine ev_seq fun K1 h1 => ?_
  refine ev_block ?_
  refine ev_reg mB ?_
  iterate 6 refine dr_act wN mb ma mc mT mR ?_
  refine dr_ixp wN mr mb ml ml (getP_map (g := cR) ([] : List Int) mr (by omega) rfl) mS (by omega) (ik := off + (len - 1 - i)) (by omega) mT ?_
  refine dr_ldp (g := cB) 0 wN mr mb ml (getP_map (g := cR) ([] : List Int) mr (by omega) rfl) (by omega) mZ mV mT ?_
  iterate 2 refine dr_act wN mb ma mc mT mR ?_
  refine dr_ixp wN mr mb ml ml (getP_map (g := cR) ([] : List Int) mr (by omega) rfl) mS (by omega) (ik := off + i) (by omega) mT ?_
  refine dr_ldp (g := cB) 0 wN mr mb ml (getP_map (g := cR) ([] : List Int) mr (by omega) rfl) (by omega) mZ mV mT ?_
  refine dr_ixp wN mr mb ml ml (getP_map (g := cR) ([] : List Int) mr (by omega) rfl) mS (by omega) (ik := off + i) (by omega) mT ?_
  refine dr_str (m := wrM m a off (revS xs i)) (r := a) (k := off + i) (b := (((wrM m a off (revS xs i)).getD a ([] : List Int)).getD (off + (len - 1 - i)) 0)) wN mr mb mlq mr mlq mA ⟨by omega, by omega⟩ mT mR ?_
  refine dr_ixp wN mr mb ml ml (getP_map (g := cR) ([] : List Int) mr (hal2 _) rfl) mS (by omega) (ik := off + (len - 1 - i)) (by omega) mT ?_
  refine dr_str (m := wrM (wrM m a off (revS xs i)) a (off + i) [(((wrM m a off (revS xs i)).getD a ([] : List Int)).getD (off + (len - 1 - i)) 0)]) (r := a) (k := off + (len - 1 - i)) (b := (((wrM m a off (revS xs i)).getD a ([] : List Int)).getD (off + i) 0)) wN mr mb mlq mr mlq mA ⟨hal2 _, by rw [wrM_row hal, ovr_len (by rw [hrl]; simp only [List.length_cons, List.length_nil]; omega), hrl]; omega⟩ mT mR ?_
  refine dr_nil ⟨fun _ => by kernel_rfl, h1 _ ?_⟩; clear h1
  refine ev_rf mB ?_
  iterate 2 refine dr_act wN mb ma mc mT mR ?_
  rw [wrap_of (x := (i : Int) + 1) (by omega) (by omega)]
  iterate 2 refine dr_act wN mb ma mc mT mR ?_
  rw [wrap_of (x := ((len : Int) - 1 - i) - 1) (by omega) (by omega)]
  iterate 2 refine dr_act wN mb ma mc mT mR ?_
  refine dr_nil ?_
  refine ⟨⟨i + 1, by omega, by omega⟩, by dsimp only; omega, ?_⟩
  rw [show (len : Int) - 1 - (i : Int) - 1 = (len : Int) - 1 - ((i + 1 : Nat) : Int) from by omega]
  rw [rev_step' ha hr hl (by omega) rfl rfl]
  exact weak_ren [] mK (chkRm rfl (by decide) rfl (fun _ => rfl) (fun a => by first | rfl | simp [okC]) trivial) mD mQ

/-- What is turned twice in its parts and then as a whole has its parts exchanged. -/
theorem wrM_twice {m : List (List Int)} {a s t : Nat} {xs ys zs : List Int} (ha : a < m.length) (hx : s + xs.length ≤ (m.getD a []).length) (hy : s ≤ t ∧ t + ys.length ≤ s + xs.length) (hz : zs = xs.take (t - s) ++ ys ++ xs.drop (t - s + ys.length)) : wrM (wrM m a s xs) a t ys = wrM m a s zs := by
  have hzl : zs.length = xs.length := by rw [hz]; simp only [List.length_append, List.length_take, List.length_drop]; omega
  have key : ovr (ovr (m.getD a []) s xs) t ys = ovr (m.getD a []) s zs := by
    apply List.ext_getElem?
    intro k
    rw [ovr_get (by rw [ovr_len hx]; omega), ovr_get hx, ovr_get (by omega), hzl]
    by_cases c1 : t ≤ k ∧ k < t + ys.length
    · rw [if_pos c1, if_pos (by omega), hz, List.getElem?_append_left (by simp only [List.length_append, List.length_take]; omega), List.getElem?_append_right (by simp only [List.length_take]; omega)]
      congr 1
      simp only [List.length_take]; omega
    · rw [if_neg c1]
      by_cases c2 : s ≤ k ∧ k < s + xs.length
      · rw [if_pos c2, if_pos c2, hz]
        by_cases c3 : k < t
        · rw [List.append_assoc, List.getElem?_append_left (by simp only [List.length_take]; omega), List.getElem?_take, if_pos (by omega)]
        · rw [List.getElem?_append_right (by simp only [List.length_append, List.length_take]; omega), List.getElem?_drop]
          congr 1
          simp only [List.length_append, List.length_take]; omega
      · rw [if_neg c2, if_neg c2]
  have h1 : (wrM m a s xs).getD a [] = ovr (m.getD a []) s xs := wrM_row ha
  rw [wrM, h1, key, wrM, wrM, List.set_set]
theorem wrM_seg {m : List (List Int)} {a s : Nat} {xs : List Int} (ha : a < m.length) (hx : s + xs.length ≤ (m.getD a []).length) {o k : Nat} (h1 : s ≤ o) (h2 : o + k ≤ s + xs.length) : (((wrM m a s xs).getD a []).drop o).take k = (xs.drop (o - s)).take k := by
  rw [wrM_row ha]
  apply List.ext_getElem?
  intro q
  rw [List.getElem?_take, List.getElem?_take]
  split
  · rw [List.getElem?_drop, List.getElem?_drop, ovr_get hx, if_pos (by omega)]
    congr 1; omega
  · rfl
theorem wrM_rowlen {m : List (List Int)} {a s : Nat} {xs : List Int} (ha : a < m.length) (hx : s + xs.length ≤ (m.getD a []).length) : ((wrM m a s xs).getD a []).length = (m.getD a []).length := by rw [wrM_row ha, ovr_len hx]
theorem turn_eq {m : List (List Int)} {w : Win} {n : Int} (h : GW m w) (h0 : 0 ≤ n ∧ n ≤ w.n) {m1 m2 m3 : List (List Int)}
    (e1 : m1 = wrM m w.a.toNat w.s.toNat (((m.getD w.a.toNat []).drop w.s.toNat).take n.toNat).reverse)
    (e2 : m2 = wrM m1 w.a.toNat (w.s.toNat + n.toNat) (((m1.getD w.a.toNat []).drop (w.s.toNat + n.toNat)).take (w.n.toNat - n.toNat)).reverse)
    (e3 : m3 = wrM m2 w.a.toNat w.s.toNat (((m2.getD w.a.toNat []).drop w.s.toNat).take w.n.toNat).reverse) : m3 = tnM m w n := by
  have g1 := h.a0; have g2 := h.a1; have g3 := h.s0; have g4 := h.n0; have g5 := h.n1; have g6 := h.c1
  have ha : w.a.toNat < m.length := by omega
  generalize hB : ((m.getD w.a.toNat []).drop w.s.toNat).take w.n.toNat = B
  have hBl : B.length = w.n.toNat := by rw [← hB]; exact seg_len (by omega)
  have hbo : bytesOf m w = B := by rw [← hB, bytesOf_eq h.fits]
  have t1 : ((m.getD w.a.toNat []).drop w.s.toNat).take n.toNat = B.take n.toNat := by
    rw [← hB, List.take_take]; congr 1; omega
  rw [t1] at e1
  have hm : m = wrM m w.a.toNat w.s.toNat B := by rw [← hB, wrM_same (by omega)]
  have f1 : m1 = wrM m w.a.toNat w.s.toNat ((B.take n.toNat).reverse ++ B.drop n.toNat) := by
    rw [e1]
    conv => lhs; rw [hm]
    exact wrM_twice ha (by omega) ⟨Nat.le_refl _, by simp only [List.length_reverse, List.length_take]; omega⟩ (by simp only [Nat.sub_self, List.take_zero, List.nil_append, List.length_reverse, List.length_take, Nat.zero_add]; congr 2; omega)
  have l1 : ((B.take n.toNat).reverse ++ B.drop n.toNat).length = w.n.toNat := by simp only [List.length_append, List.length_reverse, List.length_take, List.length_drop]; omega
  have t2 : ((m1.getD w.a.toNat []).drop (w.s.toNat + n.toNat)).take (w.n.toNat - n.toNat) = B.drop n.toNat := by
    rw [f1, wrM_seg ha (by omega) (by omega) (by omega), Nat.add_sub_cancel_left, List.drop_append, List.drop_of_length_le (by simp only [List.length_reverse, List.length_take]; omega), List.nil_append]
    rw [show n.toNat - (B.take n.toNat).reverse.length = 0 by simp only [List.length_reverse, List.length_take]; omega, List.drop_zero, List.take_of_length_le (by simp only [List.length_drop]; omega)]
  rw [t2, f1] at e2
  have f2 : m2 = wrM m w.a.toNat w.s.toNat ((B.take n.toNat).reverse ++ (B.drop n.toNat).reverse) := by
    rw [e2]
    refine wrM_twice ha (by omega) ⟨by omega, by simp only [List.length_append, List.length_reverse, List.length_take, List.length_drop]; omega⟩ ?_
    have hPl : (B.take n.toNat).reverse.length = n.toNat := by simp only [List.length_reverse, List.length_take]; omega
    have hQl : (B.drop n.toNat).length = w.n.toNat - n.toNat := by simp only [List.length_drop]; omega
    generalize (B.take n.toNat).reverse = P at *
    generalize B.drop n.toNat = Q at *
    have e : (P ++ Q).drop (n.toNat + Q.reverse.length) = [] := List.drop_eq_nil_of_le (by simp only [List.length_append, List.length_reverse]; omega)
    rw [Nat.add_sub_cancel_left, e, List.append_nil, show (P ++ Q).take n.toNat = P from by rw [← hPl]; exact List.take_left]
  have l2 : ((B.take n.toNat).reverse ++ (B.drop n.toNat).reverse).length = w.n.toNat := by simp only [List.length_append, List.length_reverse, List.length_take, List.length_drop]; omega
  have t3 : ((m2.getD w.a.toNat []).drop w.s.toNat).take w.n.toNat = (B.take n.toNat).reverse ++ (B.drop n.toNat).reverse := by
    rw [f2, wrM_seg ha (by omega) (by omega) (by omega), Nat.sub_self, List.drop_zero, List.take_of_length_le (by omega)]
  rw [t3, f2] at e3
  rw [e3, tnM, hbo]
  refine wrM_twice ha (by omega) ⟨Nat.le_refl _, by simp only [List.length_append, List.length_reverse, List.length_take, List.length_drop]; omega⟩ ?_
  have hl : (B.drop n.toNat ++ B.take n.toNat).length = w.n.toNat := by simp only [List.length_append, List.length_take, List.length_drop]; omega
  have hr : ((B.take n.toNat).reverse ++ (B.drop n.toNat).reverse).reverse = B.drop n.toNat ++ B.take n.toNat := by simp only [List.reverse_append, List.reverse_reverse]
  rw [hr, Nat.sub_self, List.take_zero, List.nil_append, hl, Nat.zero_add]
  have e : ((B.take n.toNat).reverse ++ (B.drop n.toNat).reverse).drop w.n.toNat = [] := List.drop_eq_nil_of_le (by omega)
  rw [e, List.append_nil]
end Go.Ev
