/- Part 5 of the proof: the evaluator and the contracts of functions. -/
import Derived.Below
import Derived.KernelRfl
import Derived.Laws.AppendOwn
import Derived.Laws.BytesArg
import Derived.Laws.BytesString
import Derived.Laws.CopyRow
import Derived.Laws.Entries
import Derived.Laws.IdiomCopy
import Derived.Laws.MakeOwn
import Derived.Laws.OwnMore
import Derived.Orders
import Derived.Test.YtmkcbbbknbahgaaProg
import Derived.Test.YtmkcbbbknbahgaaEvDd4
set_option linter.unusedVariables false
set_option linter.unusedSimpArgs false
namespace Go.Ev
open Go Go.RowKit Go.Proofs

/-- Bytes over bytes, from a place on. -/
def ovr (r : List Int) (s : Nat) (xs : List Int) : List Int := r.take s ++ xs ++ r.drop (s + xs.length)

theorem ovr_length {r : List Int} {s : Nat} {xs : List Int} (h : s + xs.length ≤ r.length) : (ovr r s xs).length = r.length := by
  simp only [ovr, List.length_append, List.length_take, List.length_drop]; omega

theorem ovr_nil (r : List Int) (s : Nat) : ovr r s [] = r := by simp [ovr]

theorem ovr_set {r : List Int} {s : Nat} {xs : List Int} {i : Nat} (h : s + xs.length ≤ r.length) (hi : i < xs.length) : (ovr r s (xs.take i)).set (s + i) (xs.getD i 0) = ovr r s (xs.take (i + 1)) := by
  have e1 : (xs.take i).length = i := by rw [List.length_take]; omega
  have e2 : (xs.take (i + 1)).length = i + 1 := by rw [List.length_take]; omega
  have e3 : (r.take s ++ xs.take i).length = s + i := by rw [List.length_append, e1, List.length_take]; omega
  have e4 : r.drop (s + i) = r[s + i] :: r.drop (s + i + 1) := List.drop_eq_getElem_cons (by omega)
  simp only [ovr, e1, e2]
  rw [List.set_append, if_neg (by omega), e3, Nat.sub_self, e4, List.set_cons_zero, List.take_succ_eq_append_getElem hi, List.getD_eq_getElem?_getD, List.getElem?_eq_getElem hi]
  simp only [List.append_assoc, List.cons_append, List.nil_append, Nat.add_assoc, Option.getD_some]

theorem setP_row {m : List (List Int)} {a : Nat} {ys : List Int} (h : a < m.length) : setP (rM m) (some (a, 0)) (ys.map cB) = rM (m.set a ys) := by
  simp only [setP]
  rw [getD_mapL ([] : List Int) [] h]
  show Root.mk 29 1 ((m.map cR).set a (cR ys)) = _
  rw [set_map]

theorem getD_set {α : Type} {l : List α} {a : Nat} {y d : α} (h : a < l.length) : (l.set a y).getD a d = y := by
  simp [List.getD_eq_getElem?_getD, h]

/-- Bytes into an array of a memory. -/
def wrM (m : List (List Int)) (a s : Nat) (xs : List Int) : List (List Int) := m.set a (ovr (m.getD a []) s xs)

theorem wrM_length {m : List (List Int)} {a s : Nat} {xs : List Int} : (wrM m a s xs).length = m.length := by simp [wrM]

theorem mem_getD {m : List (List Int)} {P : List Int → Prop} (h : ∀ r, r ∈ m → P r) {a : Nat} (ha : a < m.length) : P (m.getD a []) := by
  rw [List.getD_eq_getElem?_getD, List.getElem?_eq_getElem ha]; exact h _ (List.getElem_mem ha)

theorem c106 (m : List (List Int)) (w : Win) (at_ : Int) (xs : List Int) (hl : m.length ≤ 1048576) (hr : ∀ r, r ∈ m → r.length ≤ 1048576) (ha : 0 ≤ w.a ∧ w.a < m.length) (hs : 0 ≤ w.s + at_) (he : (w.s + at_).toNat + xs.length ≤ (m.getD w.a.toNat []).length) :
    Good Try.prog 106 [eMem m, eW w, vi at_, eB xs] (.agg [.ref (0, none) 0 m.length]) [rM (wrM m w.a.toNat (w.s + at_).toNat xs)] := by
  refine good_of (E := En 37) (fn := Try.f106) (by kernel_rfl) (by kernel_rfl) rfl rfl (by simp only [List.length_cons, List.length_nil]; decide) (fun C0 => ?_)
  have hra := mem_getD hr (show w.a.toNat < m.length by omega)
  generalize hsn : (w.s + at_).toNat = s at *
  have hw1 : IntKind.i64.wrap (w.s + at_) = (s : Nat) := by rw [wrap_of (by omega) (by omega)]; omega
  have hat : w.a = (w.a.toNat : Nat) := by omega
  simp only [argT, Nat.reduceAdd, eB]
  refine ev_seq fun K1 h1 => ev_rf mB ?_
  repeat refine dr_act wN mb ma mc mT mR ?_
  refine dr_nil (h1 _ ?_); clear h1 K1
  refine ev_seq fun K1 h1 => ev_rf mB ?_
  repeat refine dr_act wN mb ma mc mT mR ?_
  refine dr_callF wN mr mb mx mr (c150 m hl hr) (Nat.le_of_ble_eq_true rfl) mv mT mN ?_
  repeat refine dr_act wN mb ma mc mT mR ?_
  refine dr_nil (h1 _ ?_); clear h1 K1
  refine ev_seq fun K1 h1 => ?_
  refine ev_seq fun K2 h2 => ev_rf mB ?_
  repeat refine dr_act wN mb ma mc mT mR ?_
  refine dr_nil (h2 _ ?_); clear h2 K2
  refine ev_block (ev_loop (α := {i : Nat // i ≤ xs.length}) (fun i => ⟨[(2, vi at_), (3, .list 1 (xs.map cB)), (5, .ptr (8, none) 0 0), (8, .ptr (16, none) 0 0), (9, .ptr (40, none) 0 0), (10, vi i.1)], [(8, ⟨32, 4, [[vi w.a, vi w.s, vi w.n, vi w.c]]⟩), (16, ⟨31, 1, [[.val (.slice none 0 0)]]⟩), (40, ⟨31, 1, [[.ref (32, none) 0 m.length]]⟩), (32, rM (wrM m w.a.toNat s (xs.take i.1)))], 64⟩) (fun i => xs.length - i.1) ⟨0, Nat.zero_le _⟩ (weak_ren [] mK (chkR_cons mK (chkR_cons mK (chkR_cons mK (chkRm rfl (by decide) ?_ (fun _ => rfl) (fun a => by simp [okC]) mK)))) mD mQ) (fun ⟨i, hi⟩ => ?_))
  · rw [wrM, List.take_zero, ovr_nil]
    congr 1
    apply List.ext_getElem?
    intro k
    rw [List.getElem?_set]
    split
    · rename_i e; subst e
      rw [List.getD_eq_getElem?_getD]
      rw [if_pos (by omega), List.getElem?_eq_getElem (by omega)]; rfl
    · rfl
  refine ev_seq fun K2 h2 => ev_seq fun K3 h3 => ev_rf mB ?_
  repeat refine dr_act wN mb ma mc mT mR ?_
  refine dr_nil (h3 _ ?_); clear h3
  refine ev_cond _ ml (fun h => ev_skip (h2 _ ?_)) (fun h => ev_exit ?_)
  · clear h1 h2
    have hlt : i < xs.length := by have := of_decide_eq_true h; omega
    have hti : (xs.take i).length = i := by rw [List.length_take]; omega
    have hwl : (wrM m w.a.toNat s (xs.take i)).length = m.length := wrM_length
    have hgr : (wrM m w.a.toNat s (xs.take i)).getD w.a.toNat [] = ovr (m.getD w.a.toNat []) s (xs.take i) := getD_set (by omega)
    have hol : (ovr (m.getD w.a.toNat []) s (xs.take i)).length = (m.getD w.a.toNat []).length := ovr_length (by omega)
    have hw2 : IntKind.i64.wrap ((s : Nat) + (i : Nat)) = ((s + i : Nat) : Int) := by rw [wrap_of (by omega) (by omega)]; omega
    refine ev_seq fun K2 h2 => ev_block (ev_reg mB ?_)
    repeat refine dr_act wN mb ma mc mT mR ?_
    refine dr_ixp wN mr mb ml ml mr mS ⟨ha.1, ha.2⟩ (Nat.zero_add _) mT ?_
    refine dr_ldp (g := cR) (ys := wrM m w.a.toNat s (xs.take i)) [] wN mr mb ml mr (by omega) ⟨by decide, Nat.le_refl 1⟩ mV mT ?_
    repeat refine dr_act wN mb ma mc mT mR ?_
    rw [hw1, hw2]
    refine dr_ix (0 : Int) wN mr mb ml ml mS (by omega) mT ?_
    repeat refine dr_act wN mb ma mc mT mR ?_
    refine dr_ixp wN mr mb ml ml (getP_map (d := []) (g := cR) (ys := wrM m w.a.toNat s (xs.take i)) mr (by omega) mr) mS (by rw [List.length_map, hgr, hol]; omega) (show 0 + _ = s + i by omega) mT ?_
    refine dr_stp (zs := (ovr (m.getD w.a.toNat []) s (xs.take (i + 1))).map cB) (r' := rM (wrM m w.a.toNat s (xs.take (i + 1)))) wN mr mb ml (getP_map (d := []) (g := cR) (ys := wrM m w.a.toNat s (xs.take i)) mr (by omega) mr) mr ml ⟨rfl, rfl⟩ mZ ⟨by rw [List.length_map, hgr, hol]; omega, Nat.le_refl 1⟩ ?_ ?_ mT mR ?_
    · rw [hgr, ← ovr_set he hlt]
      exact set_put 0 (by rw [hol]; omega) rfl
    · show setP (rM (wrM m w.a.toNat s (xs.take i))) _ _ = _
      rw [setP_row (by omega), wrM, wrM, List.set_set]
    refine dr_nil ⟨fun _ => by kernel_rfl, h2 _ (ev_rf mB ?_)⟩; clear h2
    repeat refine dr_act wN mb ma mc mT mR ?_
    refine dr_nil ⟨⟨i + 1, by omega⟩, by simp only []; omega, ?_⟩
    rw [w64p (n := xs.length) (by omega) (by omega)]
    exact weak_ren [] mK (chkR_cons mK (chkR_cons mK (chkR_cons mK (chkRm rfl (by decide) rfl (fun _ => rfl) (fun a => by simp [okC]) mK)))) mD mQ
  · simp only [seqK, loopK, blkK, ↓reduceIte]
    refine h1 _ ?_; clear h1 h2
    have hge := of_decide_eq_false h
    obtain rfl : i = xs.length := by omega
    refine ev_seq fun K1 h1 => ev_rf mB ?_
    repeat refine dr_act wN mb ma mc mT mR ?_
    refine dr_nil (h1 _ (ev_ret ?_)); clear h1
    refine retC [32] (hR := ⟨⟨?_, pure_map fun r => by simp [pcell]⟩, trivial⟩)
    show some (rM (wrM m w.a.toNat s (xs.take xs.length))) = _
    rw [List.take_length]
end Go.Ev
namespace Go.Ev
open Go Go.RowKit Go.Proofs

theorem nT {p : Prop} (h : p := by simp only [En_nt]; decide) : p := h
theorem mL {p : Prop} (h : p := by simp only [lookT, Nat.reduceEqDiff, ↓reduceIte]; rfl) : p := h
theorem mlq {p : Prop} (h : p := by simp only [En_nt, lookO, lookT, Nat.reduceEqDiff, Nat.reduceLT, ↓reduceIte] <;> rfl) : p := h
theorem mP {p : Prop} (h : p := by exact ⟨_, _, _, rfl⟩) : p := h

/-- Results in variables and temporaries. -/
theorem retL {E : Env} {res res' : List ResultVar} {σ : St} {rs : List Root} {v : V} {us : List V} (ns : List Nat) (hr : res = res') (h : ResL E (lookT σ.T) (lookR σ.R) res' us) (hv : oneOf us = rnV (fun k => ns.getD k 0) v) (ok : okV true rs.length v = true) (hd : ns.Nodup) (hR : RootsL (lookR σ.R) ns rs) : retK E res v rs .ret σ :=
  ⟨⟨ns, us, by rw [hr]; exact h, hv, hd, hR, ok⟩⟩

/-- The same by reference. -/
theorem retLR {E : Env} {res res' : List ResultVar} {σ : St} {rs' : List (Option Root)} {v : V} {us : List V} (ns : List Nat) (hr : res = res') (h : ResL E (lookT σ.T) (lookR σ.R) res' us) (hv : oneOf us = rnV (dnN E.k0 ns) v) (hd : ns.Nodup ∧ (ns.all fun n => decide (E.k0 ≤ n)) = true) (hl : E.k0 + ns.length = rs'.length) (hR : RootsR (lookR σ.R) (dnN E.k0 ns) 0 rs') : retKR E res v rs' .ret σ :=
  ⟨ns, us, by rw [hr]; exact h, hv, hd.1, hd.2, hl, hR⟩

theorem okB {xs : List Int} : (xs.map cB).all (·.all noN0) = true := by
  refine List.all_eq_true.2 fun x hx => ?_
  obtain ⟨a, _, rfl⟩ := List.mem_map.1 hx
  rfl

theorem cut_all {xs : List (List V)} {n : Nat} (h : xs.length = n) : cut xs 0 n = xs := by
  subst h; simp [cut]

/-- An own memory is read as a list. -/
theorem fM {R : Rs} {n : Nat} {m : List (List Int)} {k : Nat} (h : R n = some (rM m)) (hk : k = m.length) : FrzC R (.ref (n, none) 0 k) (eM m) := by
  refine .ref (xs := m.map cR) (zs := m.map cR) (by rw [act_of h]) (cut_all (by rw [hk]; exact List.length_map ..)) ?_
  exact frzE_map (fun r => .cons (.row okB) .nil) m

/-- Own bytes are read as a list. -/
theorem fB {R : Rs} {p : Pl} {off len : Nat} {xs ys : List Int} (h : getP R p = some (1, xs.map cB)) (hc : (xs.drop off).take len = ys) : FrzC R (.ref p off len) (eB ys) := by
  refine .ref h (zs := ys.map cB) ?_ (norow_noN0 okB)
  rw [← hc, cut_eq, List.map_take, List.map_drop]

theorem fN {R : Rs} {x : V} (h : noN x = true) : Frz R x x := .cell (.same h)
theorem fn {R : Rs} {x : V} (h : noN x = true) : FrzC R x x := .same h

abbrev oM (n : Nat) (m : List (List Int)) : V := .agg [.ref (n, none) 0 m.length]
abbrev zM : V := .agg [.val (.slice none 0 0)]
abbrev zW : V := eW ⟨0, 0, 0, 0⟩
abbrev zG : V := .agg [.val (.slice none 0 0), vi 0, vi 0, vi 0, vi 0, vi 0, vi 0]

theorem okRM {m : List (List Int)} : (rM m).els.all (·.all pcell) = true := pure_map fun r => by simp [pcell]
theorem okB5 {xs : List Int} : (xs.map cB).all (·.all pcell) = true := pure_map fun _ => rfl
theorem okMM {m : List (List Int)} {bd : Nat} : (m.map cR).all (·.all (okC false bd)) = true := okMap (fun _ => by simp [okC]) m
end Go.Ev
namespace Go.Ev
open Go Go.RowKit Go.Proofs

theorem c158 (m : List (List Int)) (xs : List Int) (n : Int) (hl : m.length ≤ 1048576) (hr : ∀ r, r ∈ m → r.length ≤ 1048576) (hx : xs.length ≤ 1048576) :
    Good Try.prog 158 [eMem m, eB xs, vi n] (.tup [oM 0 (m ++ [xs]), eW ⟨m.length, 0, n, xs.length⟩]) [rM (m ++ [xs])] := by
  refine good_of (E := En 27) (fn := Try.f158) (by kernel_rfl) (by kernel_rfl) rfl rfl (by simp only [List.length_cons, List.length_nil]; decide) (fun C0 => ?_)
  simp only [argT, Nat.reduceAdd]
  refine ev_seq fun K1 h1 => ev_rf mB ?_
  repeat refine dr_act wN mb ma mc mT mR ?_
  refine dr_nil (h1 _ ?_); clear h1 K1
  refine ev_seq fun K1 h1 => ev_rf mB ?_
  repeat refine dr_act wN mb ma mc mT mR ?_
  refine dr_callF wN mr mb mx mr (c150 m hl hr) (Nat.le_of_ble_eq_true rfl) mv mT mN ?_
  repeat refine dr_act wN mb ma mc mT mR ?_
  refine dr_nil (h1 _ ?_); clear h1 K1
  refine ev_seq fun K1 h1 => ev_reg mB ?_
  repeat refine dr_act wN mb ma mc mT mR ?_
  refine dr_act wN mb (by simp only [eB]; exact ma) (by exact ⟨by simp only [maxLen]; omega, by omega⟩) mT mR ?_
  refine dr_act wN mb ma (by exact ⟨⟨by decide, by decide, fun x hx => by simp at hx; subst hx; rfl⟩, by simp [notRow], by decide⟩) mT mR ?_
  refine dr_act wN mb ma (by exact ⟨by simp only [maxLen]; omega, by omega⟩) mT mR ?_
  repeat refine dr_act wN mb ma mc mT mR ?_
  refine dr_nil ⟨fun _ => by kernel_rfl, h1 _ ?_⟩; clear h1
  refine ev_seq fun K1 h1 => ev_reg mB ?_
  repeat refine dr_act wN mb ma mc mT mR ?_
  refine dr_nil ⟨fun _ => by kernel_rfl, h1 _ (ev_ret ?_)⟩; clear h1
  refine retL [104] (res' := [.cell 6 31, .cell 7 32]) mr (.cell nT mZ ma mc mP (.cell nT mZ ma mc mP .nil)) ?_ mr (by decide) ⟨⟨?_, okRM⟩, trivial⟩
  · simp only [oM, List.length_append, List.length_cons, List.length_nil]; rfl
  · show some (Root.mk 29 1 (m.map cR ++ [cR xs])) = _
    simp
end Go.Ev
namespace Go.Ev
open Go Go.RowKit Go.Proofs

/-- A valid memory. -/
structure GM (m : List (List Int)) : Prop where
  l : m.length ≤ 16
  r : ∀ r, r ∈ m → r.length ≤ 64
  p : ∀ r, r ∈ m → 1 ≤ r.length

/-- A valid window on a valid memory. -/
structure GW (m : List (List Int)) (w : Win) : Prop where
  g : GM m
  a0 : 0 ≤ w.a
  a1 : w.a < m.length
  s0 : 0 ≤ w.s
  n0 : 0 ≤ w.n
  n1 : w.n ≤ w.c
  c1 : w.s + w.c ≤ (m.getD w.a.toNat []).length

theorem GM.l4 {m : List (List Int)} (h : GM m) : m.length ≤ 1048576 := by have := h.l; omega
theorem GM.r4 {m : List (List Int)} (h : GM m) : ∀ r, r ∈ m → r.length ≤ 1048576 := fun r hr => by have := h.r r hr; omega
theorem GW.row {m : List (List Int)} {w : Win} (h : GW m w) : (m.getD w.a.toNat []).length ≤ 64 := mem_getD h.g.r (by have := h.a0; have := h.a1; omega)
theorem GW.fits {m : List (List Int)} {w : Win} (h : GW m w) : Fits m w :=
  ⟨h.a0, h.a1, h.s0, h.n0, by have := h.n1; have := h.c1; omega, by have := h.row; omega⟩
theorem GW.c64 {m : List (List Int)} {w : Win} (h : GW m w) : w.c ≤ 64 := by have := h.row; have := h.c1; have := h.s0; omega

/-- Zeros behind bytes, up to a length. -/
def padB (xs : List Int) (n : Nat) : List Int := xs ++ List.replicate (n - xs.length) 0
theorem padB_length {xs : List Int} {n : Nat} (h : xs.length ≤ n) : (padB xs n).length = n := by
  simp only [padB, List.length_append, List.length_replicate]; omega
theorem padB_self (xs : List Int) : padB xs xs.length = xs := by simp [padB]
theorem padB_succ {xs : List Int} {n : Nat} (h : xs.length ≤ n) : padB xs n ++ [0] = padB xs (n + 1) := by
  rw [padB, padB, Nat.succ_sub h, List.replicate_succ', List.append_assoc]

/-- The room of a window that moves. -/
def capN (c need : Int) : Int := if (if 2 * c > need then 2 * c else need) < 64 then (if 2 * c > need then 2 * c else need) else 64
theorem capN_le {c need : Int} (h : need ≤ 64) : need ≤ capN c need ∧ capN c need ≤ 64 := by
  unfold capN; split <;> split <;> omega

/-- Memory and window behind appending, if it can be. -/
def apM (m : List (List Int)) (w : Win) (xs : List Int) : Option (List (List Int) × Win) :=
  if xs.length ≤ w.c - w.n then some (wrM m w.a.toNat (w.s + w.n).toNat xs, ⟨w.a, w.s, w.n + xs.length, w.c⟩)
  else if 64 - w.n < xs.length ∨ m.length = 16 then none
  else some (m ++ [padB (bytesOf m w ++ xs) (capN w.c (w.n + xs.length)).toNat], ⟨m.length, 0, w.n + xs.length, capN w.c (w.n + xs.length)⟩)

abbrev oMW : Option (List (List Int) × Win) → V
  | some (m, w) => .tup [oM 0 m, eW w, vb true]
  | none => .tup [zM, zW, vb false]
abbrev rMW : Option (List (List Int) × Win) → List Root
  | some (m, _) => [rM m]
  | none => []

theorem bytesOf_length (m : List (List Int)) (w : Win) : (bytesOf m w).length = w.n.toNat := by simp [bytesOf]

theorem c184 (m : List (List Int)) (w : Win) (xs : List Int) (hw : GW m w) (hx : xs.length ≤ 1048576) : Good Try.prog 184 [eMem m, eW w, eB xs] (oMW (apM m w xs)) (rMW (apM m w xs)) := by
  refine good_of (E := En 78) (fn := Try.f184) (by kernel_rfl) (by kernel_rfl) rfl rfl (by simp only [List.length_cons, List.length_nil]; decide) (fun C0 => ?_)
  have hc := hw.c64
  have hn0 := hw.n0
  have hn1 := hw.n1
  have hs0 := hw.s0
  have hc1 := hw.c1
  have hrow := hw.row
  have hml := hw.g.l
  have w1 : w64 (w.c - w.n) = w.c - w.n := wrap_of (by omega) (by omega)
  have w2 : IntKind.i64.wrap (w.n + (xs.length : Nat)) = w.n + (xs.length : Nat) := wrap_of (by omega) (by omega)
  have w3 : IntKind.i64.wrap (64 - w.n) = 64 - w.n := wrap_of (by omega) (by omega)
  have w4 : IntKind.i64.wrap (2 * w.c) = 2 * w.c := wrap_of (by omega) (by omega)
  simp only [argT, Nat.reduceAdd, eB]
  refine ev_seq fun K1 h1 => ev_rf mB ?_
  repeat refine dr_act wN mb ma mc mT mR ?_
  refine dr_nil (h1 _ ?_); clear h1 K1
  refine ev_seq fun K1 h1 => ?_
  refine ev_seq fun K2 h2 => ev_rf mB ?_
  repeat refine dr_act wN mb ma mc mT mR ?_
  refine dr_callF wN mr mb mx mr (c199 w) (Nat.le_of_ble_eq_true rfl) mv mT mN ?_
  repeat refine dr_act wN mb ma mc mT mR ?_
  refine dr_nil (h2 _ ?_); clear h2
  rw [w1]
  refine ev_cond _ ml (fun h => ?_) (fun h => ev_skip (h1 _ ?_))
  · have hle := of_decide_eq_true h
    have e : apM m w xs = some (wrM m w.a.toNat (w.s + w.n).toNat xs, ⟨w.a, w.s, w.n + xs.length, w.c⟩) := by rw [apM, if_pos hle]
    clear h1
    refine ev_seq fun K2 h2 => ev_reg mB ?_
    repeat refine dr_act wN mb ma mc mT mR ?_
    refine dr_callF wN mr mb mx mr (c106 m w w.n xs hw.g.l4 hw.g.r4 ⟨hw.a0, hw.a1⟩ (by omega) (by omega)) (Nat.le_of_ble_eq_true rfl) mv mT mN ?_
    repeat refine dr_act wN mb ma mc mT mR ?_
    rw [w2]
    refine dr_callF wN mr mb mx mr (c101 w 0 (w.n + (xs.length : Nat)) w.c) (Nat.le_of_ble_eq_true rfl) mv mT mN ?_
    repeat refine dr_act wN mb ma mc mT mR ?_
    refine dr_nil ⟨fun _ => by kernel_rfl, h2 _ (ev_ret ?_)⟩; clear h2
    have w5 : IntKind.i64.wrap (w.s + 0) = w.s := by rw [wrap_of (by omega) (by omega)]; omega
    have w6 : IntKind.i64.wrap (w.n + (xs.length : Nat) - 0) = w.n + (xs.length : Nat) := by rw [wrap_of (by omega) (by omega)]; omega
    have w7 : IntKind.i64.wrap (w.c - 0) = w.c := by rw [wrap_of (by omega) (by omega)]; omega
    simp only [w64, w5, w6, w7]
    rw [e]
    refine retL [120] (res' := [.cell 6 31, .cell 7 32, .tmp 8]) mr (.cell nT mZ ma mc mP (.cell nT mZ ma mc mP (.tmp nT mL .nil))) ?_ mr (by decide) ⟨⟨mr, okRM⟩, trivial⟩
    simp only [oMW, oM, wrM_length]; rfl
  have hgt := of_decide_eq_false h
  clear h1 K1 h
  refine ev_seq fun K1 h1 => ?_
  refine ev_seq fun K2 h2 => ev_rf mB ?_
  repeat refine dr_act wN mb ma mc mT mR ?_
  rw [w3]
  cases hd : decide ((xs.length : Int) > 64 - w.n)
  rotate_left
  · iterate 4 refine dr_skip wG mT ?_
    repeat refine dr_act wN mb ma mc mT mR ?_
    refine dr_nil (h2 _ ?_); clear h2
    refine ev_cond true mlq (fun h => ?_) (fun h => by cases h)
    refine ev_seq fun K2 h2 => ev_rf mB ?_
    repeat refine dr_act wN mb ma mc mT mR ?_
    refine dr_nil (h2 _ (ev_ret ?_)); clear h2 h1
    rw [apM, if_neg hgt, if_pos (.inl (by have := of_decide_eq_true hd; omega))]
    exact retL [] (res' := [.cell 6 31, .cell 7 32, .tmp 8]) mr (.cell nT mZ ma mc mP (.cell nT mZ ma mc mP (.tmp nT mL .nil))) rfl mr (by decide) trivial
  iterate 4 refine dr_act wG mb ma mc mT mR ?_
  repeat refine dr_act wN mb ma mc mT mR ?_
  refine dr_nil (h2 _ ?_); clear h2
  refine ev_cond _ ml (fun h => ?_) (fun h => ev_skip (h1 _ ?_))
  · have hm := of_decide_eq_true h
    refine ev_seq fun K2 h2 => ev_rf mB ?_
    repeat refine dr_act wN mb ma mc mT mR ?_
    refine dr_nil (h2 _ (ev_ret ?_)); clear h2 h1
    rw [apM, if_neg hgt, if_pos (.inr (by omega))]
    exact retL [] (res' := [.cell 6 31, .cell 7 32, .tmp 8]) mr (.cell nT mZ ma mc mP (.cell nT mZ ma mc mP (.tmp nT mL .nil))) rfl mr (by decide) trivial
  have hm := of_decide_eq_false h
  have hle := of_decide_eq_false hd
  clear h1 K1 h hd
  have e : apM m w xs = some (m ++ [padB (bytesOf m w ++ xs) (capN w.c (w.n + xs.length)).toNat], ⟨m.length, 0, w.n + xs.length, capN w.c (w.n + xs.length)⟩) := by rw [apM, if_neg hgt, if_neg (by omega)]
  rw [e]
  have hcap := capN_le (c := w.c) (need := w.n + (xs.length : Nat)) (by omega)
  generalize hall : bytesOf m w ++ xs = all0
  have hal : (all0.length : Int) = w.n + (xs.length : Nat) := by rw [← hall, List.length_append, bytesOf_length]; omega
  refine ev_seq fun K1 h1 => ev_rf mB ?_
  repeat refine dr_act wN mb ma mc mT mR ?_
  refine dr_nil (h1 _ ?_); clear h1 K1
  rw [w2]
  refine ev_seq fun K1 h1 => ev_rf mB ?_
  repeat refine dr_act wN mb ma mc mT mR ?_
  refine dr_callF wN mr mb mx mr (c185 m w hw.fits) (Nat.le_of_ble_eq_true rfl) mv mT mN ?_
  repeat refine dr_act wN mb ma mc mT mR ?_
  refine dr_act wN mb ma (by exact ⟨(bytesOf_length m w).symm, by simp only [maxLen]; omega, by omega⟩) mT mR ?_
  repeat refine dr_act wN mb ma mc mT mR ?_
  refine dr_nil (h1 _ ?_); clear h1 K1
  have hal' : w.n.toNat + xs.length = all0.length := by omega
  rw [hal']
  refine ev_seq fun K1 h1 => ev_block (ev_loop (α := {k : Nat // all0.length ≤ k ∧ k ≤ (capN w.c (w.n + (xs.length : Nat))).toNat}) (fun k => ⟨[(3, .ptr (0, none) 0 0), (4, .ptr (8, none) 0 0), (6, .ptr (16, none) 0 0), (7, .ptr (24, none) 0 0), (9, vi (w.n + (xs.length : Nat))), (10, .ref (256, none) 0 k.1)], [(0, ⟨31, 1, [[eM m]]⟩), (8, ⟨32, 4, [cW w]⟩), (16, ⟨31, 1, [[.val (.slice none 0 0)]]⟩), (24, ⟨32, 4, [[vi 0, vi 0, vi 0, vi 0]]⟩), (256, ⟨5, 1, (padB all0 k.1).map cB⟩)], 272⟩) (fun k => (capN w.c (w.n + (xs.length : Nat))).toNat - k.1) ⟨all0.length, Nat.le_refl _, by omega⟩ (weak_ren [] mK (chkR_cons mK (chkR_cons mK (chkR_cons mK (chkR_cons mK (chkRm rfl (by decide) ?_ (fun _ => rfl) (fun _ => rfl) mK))))) mD mQ) (fun ⟨k, hk0, hk1⟩ => ?_))
  · rw [padB_self, ← hall, List.map_append]
  have hpl := padB_length hk0
  refine ev_seq fun K2 h2 => ev_seq fun K3 h3 => ev_rf mB ?_
  repeat refine dr_act wN mb ma mc mT mR ?_
  rw [w4]
  refine dr_callF wN mr mb mx mr (c201 (2 * w.c) (w.n + (xs.length : Nat))) (Nat.le_of_ble_eq_true rfl) mv mT mN ?_
  refine dr_callF wN mr mb mx mr (c200 _ 64) (Nat.le_of_ble_eq_true rfl) mv mT mN ?_
  repeat refine dr_act wN mb ma mc mT mR ?_
  refine dr_nil (h3 _ ?_); clear h3
  refine ev_cond _ ml (fun h => ev_skip (h2 _ ?_)) (fun h => ev_exit ?_)
  · clear h1 h2
    have hlt : (k : Int) < capN w.c (w.n + (xs.length : Nat)) := of_decide_eq_true h
    refine ev_block (ev_rf mB ?_)
    repeat refine dr_act wN mb ma mc mT mR ?_
    refine dr_act wN mb ma (by exact ⟨hpl.symm, ⟨by simp only [maxLen]; omega, by omega⟩, rfl⟩) mT mR ?_
    repeat refine dr_act wN mb ma mc mT mR ?_
    refine dr_nil ⟨⟨k + 1, by omega, by omega⟩, by simp only []; omega, ?_⟩
    refine weak_ren [(256, 360)] mK (chkR_cons mK (chkR_cons mK (chkR_cons mK (chkR_cons mK (chkRm rfl (by decide) ?_ (fun _ => rfl) (fun _ => rfl) mK))))) mD mQ
    rw [← padB_succ hk0, List.map_append]; rfl
  · simp only [seqK, loopK, blkK, ↓reduceIte]
    refine h1 _ ?_; clear h1 h2
    have hge : ¬ (k : Int) < capN w.c (w.n + (xs.length : Nat)) := of_decide_eq_false h
    have hk : k = (capN w.c (w.n + (xs.length : Nat))).toNat := by omega
    have hkc : (((padB all0 (capN w.c (w.n + (xs.length : Nat))).toNat).length : Nat) : Int) = capN w.c (w.n + (xs.length : Nat)) := by rw [padB_length (by omega)]; omega
    subst hk
    refine ev_seq fun K1 h1 => ev_rf mB ?_
    repeat refine dr_act wN mb ma mc mT mR ?_
    refine dr_call wN mr mb mx (.cons (fN rfl) (.cons (.cell (fB (ys := padB all0 (capN w.c (w.n + (xs.length : Nat))).toNat) mr (by rw [List.drop_zero, List.take_of_length_le (Nat.le_of_eq hpl)]))) (.cons (fN rfl) .nil))) (c158 m (padB all0 (capN w.c (w.n + (xs.length : Nat))).toNat) (w.n + (xs.length : Nat)) hw.g.l4 hw.g.r4 (by omega)) (Nat.le_of_ble_eq_true rfl) mv mT mN ?_
    rw [hkc]
    repeat refine dr_act wN mb ma mc mT mR ?_
    refine dr_nil (h1 _ ?_); clear h1
    refine ev_seq fun K1 h1 => ev_reg mB ?_
    repeat refine dr_act wN mb ma mc mT mR ?_
    refine dr_nil ⟨fun _ => by kernel_rfl, h1 _ (ev_ret ?_)⟩; clear h1
    exact retL [368] (res' := [.cell 6 31, .cell 7 32, .tmp 8]) mr (.cell nT mZ ma mc mP (.cell nT mZ ma mc mP (.tmp nT mL .nil))) rfl mr (by decide) ⟨⟨mr, okRM⟩, trivial⟩
end Go.Ev
namespace Go.Ev
open Go Go.RowKit Go.Proofs

theorem GM.set {m : List (List Int)} (h : GM m) {a : Nat} {r : List Int} (hr : r.length ≤ 64) (hp : 1 ≤ r.length) : GM (m.set a r) := by
  refine ⟨by rw [List.length_set]; exact h.l, fun x hx => ?_, fun x hx => ?_⟩
  · rcases List.mem_or_eq_of_mem_set hx with h1 | rfl
    · exact h.r x h1
    · exact hr
  · rcases List.mem_or_eq_of_mem_set hx with h1 | rfl
    · exact h.p x h1
    · exact hp

theorem GW.wr {m : List (List Int)} {w : Win} (h : GW m w) {s : Nat} {xs : List Int} (hs : s + xs.length ≤ (m.getD w.a.toNat []).length) : GW (wrM m w.a.toNat s xs) w := by
  have ha : w.a.toNat < m.length := by have := h.a0; have := h.a1; omega
  have hl := ovr_length hs
  refine ⟨h.g.set (by rw [hl]; exact h.row) (by rw [hl]; exact mem_getD h.g.p ha), h.a0, by rw [wrM_length]; exact h.a1, h.s0, h.n0, h.n1, ?_⟩
  rw [wrM, getD_set ha, hl]
  exact h.c1

theorem apM_GW {m m' : List (List Int)} {w w' : Win} {xs : List Int} (h : GW m w) (e : apM m w xs = some (m', w')) : GW m' w' ∧ w'.n = w.n + xs.length := by
  have h0 := h.n0
  have h1 := h.n1
  have h2 := h.s0
  have h3 := h.c1
  unfold apM at e
  split at e
  · rename_i hle
    simp only [Option.some.injEq, Prod.mk.injEq] at e
    obtain ⟨rfl, rfl⟩ := e
    have k := h.wr (s := (w.s + w.n).toNat) (xs := xs) (by omega)
    exact ⟨⟨k.g, k.a0, k.a1, k.s0, by show 0 ≤ w.n + _; omega, by show w.n + _ ≤ w.c; omega, k.c1⟩, rfl⟩
  · split at e
    · cases e
    · rename_i hle hno
      simp only [Option.some.injEq, Prod.mk.injEq] at e
      obtain ⟨rfl, rfl⟩ := e
      have hcap := capN_le (c := w.c) (need := w.n + (xs.length : Nat)) (by omega)
      have hp : (padB (bytesOf m w ++ xs) (capN w.c (w.n + (xs.length : Nat))).toNat).length = (capN w.c (w.n + (xs.length : Nat))).toNat := padB_length (by rw [List.length_append, bytesOf_length]; omega)
      have hl := h.g.l
      refine ⟨⟨⟨by rw [List.length_append]; simp only [List.length_cons, List.length_nil]; omega, fun r hr => ?_, fun r hr => ?_⟩, by show (0 : Int) ≤ (m.length : Nat); omega, by rw [List.length_append]; simp only [List.length_cons, List.length_nil]; omega, Int.le_refl 0, by show 0 ≤ w.n + _; omega, hcap.1, ?_⟩, rfl⟩
      · rcases List.mem_append.1 hr with h4 | h4
        · exact h.g.r r h4
        · rw [List.mem_singleton.1 h4, hp]; omega
      · rcases List.mem_append.1 hr with h4 | h4
        · exact h.g.p r h4
        · rw [List.mem_singleton.1 h4, hp]; omega
      · have e1 : (m ++ [padB (bytesOf m w ++ xs) (capN w.c (w.n + (xs.length : Nat))).toNat]).getD (m.length : Int).toNat [] = padB (bytesOf m w ++ xs) (capN w.c (w.n + (xs.length : Nat))).toNat := by
          simp [List.getD_eq_getElem?_getD]
        rw [e1, hp]
        show 0 + capN _ _ ≤ _
        omega

/-- A valid gap. -/
structure GG (g : Gp) : Prop where
  w : GW g.m g.w
  p0 : 0 ≤ g.p
  pq : g.p ≤ g.q
  qn : g.q ≤ g.w.n

def wdG (g : Gp) (n : Int) : Option Gp :=
  if n > 64 then none
  else match apM g.m g.w (List.replicate n.toNat 0) with
    | none => none
    | some (m', w') => some ⟨wrM m' w'.a.toNat (w'.s + (g.q + n)).toNat ((bytesOf g.m g.w).drop g.q.toNat), w', g.p, g.q + n⟩

abbrev oGo : Option Gp → V
  | some g => .tup [oG 0 g, vb true]
  | none => .tup [zG, vb false]
abbrev rGo : Option Gp → List Root
  | some g => [rM g.m]
  | none => []

theorem rep0 {n : Nat} : List.replicate n [V.val (.int .u8 0)] = (List.replicate n (0 : Int)).map cB := by rw [List.map_replicate]

theorem c145 (g : Gp) (n : Int) (hg : GG g) (hn : 0 ≤ n) (hn2 : n ≤ 4000000) : Good Try.prog 145 [eG g, vi n] (oGo (wdG g n)) (rGo (wdG g n)) := by
  refine good_of (E := En 51) (fn := Try.f145) (by kernel_rfl) (by kernel_rfl) rfl rfl (by simp only [List.length_cons, List.length_nil]; decide) (fun C0 => ?_)
  simp only [argT, Nat.reduceAdd]
  refine ev_seq fun K1 h1 => ev_rf mB ?_
  repeat refine dr_act wN mb ma mc mT mR ?_
  refine dr_nil (h1 _ ?_); clear h1 K1
  refine ev_seq fun K1 h1 => ?_
  refine ev_seq fun K2 h2 => ev_rf mB ?_
  repeat refine dr_act wN mb ma mc mT mR ?_
  refine dr_nil (h2 _ ?_); clear h2
  refine ev_cond _ ml (fun h => ?_) (fun h => ev_skip (h1 _ ?_))
  · have hgt := of_decide_eq_true h
    clear h1
    refine ev_seq fun K2 h2 => ev_rf mB ?_
    repeat refine dr_act wN mb ma mc mT mR ?_
    refine dr_nil (h2 _ (ev_ret ?_)); clear h2
    rw [wdG, if_pos hgt]
    exact retL [] (res' := [.cell 4 34, .tmp 5]) mr (.cell nT mZ ma mc mP (.tmp nT mL .nil)) rfl mr (by decide) trivial
  have hle := of_decide_eq_false h
  have hcs := c184 g.m g.w (List.replicate n.toNat 0) hg.w (by rw [List.length_replicate]; omega)
  clear h1 h
  have hwn := hg.w.c64
  have hwn1 := hg.w.n1
  have hwn0 := hg.w.n0
  have hq := hg.qn
  have hq0 : 0 ≤ g.q := Int.le_trans hg.p0 hg.pq
  have w1 : IntKind.i64.wrap (g.q + n) = g.q + n := wrap_of (by omega) (by omega)
  rw [wdG, if_neg hle]
  rcases hap : apM g.m g.w (List.replicate n.toNat 0) with _ | ⟨m', w'⟩
  · rw [hap] at hcs
    simp only []
    refine ev_seq fun K1 h1 => ev_reg mB ?_
    repeat refine dr_act wN mb ma mc mT mR ?_
    refine dr_act wN mb ma (by omega) mT mR ?_
    refine dr_call wN mr mb mx (.cons (fN rfl) (.cons (fN rfl) (.cons (.cell (fB (xs := List.replicate n.toNat 0) (by rw [← rep0]; rfl) (by rw [List.drop_zero, List.take_of_length_le (by rw [List.length_replicate]; exact Nat.le_refl _)]))) .nil))) hcs (Nat.le_of_ble_eq_true rfl) mv mT mN ?_
    repeat refine dr_act wN mb ma mc mT mR ?_
    refine dr_nil ⟨fun _ => by kernel_rfl, h1 _ ?_⟩; clear h1
    refine ev_seq fun K1 h1 => ?_
    refine ev_seq fun K2 h2 => ev_rf mB ?_
    repeat refine dr_act wN mb ma mc mT mR ?_
    refine dr_nil (h2 _ ?_); clear h2
    refine ev_cond true mlq (fun h => ?_) (fun h => by cases h)
    refine ev_seq fun K2 h2 => ev_rf mB ?_
    repeat refine dr_act wN mb ma mc mT mR ?_
    refine dr_nil (h2 _ (ev_ret ?_)); clear h2 h1
    exact retL [] (res' := [.cell 4 34, .tmp 5]) mr (.cell nT mZ ma mc mP (.tmp nT mL .nil)) rfl mr (by decide) trivial
  · rw [hap] at hcs
    obtain ⟨hw', hn'⟩ := apM_GW hg.w hap
    simp only [List.length_replicate] at hn'
    have hbl : ((bytesOf g.m g.w).drop g.q.toNat).length = g.w.n.toNat - g.q.toNat := by rw [List.length_drop, bytesOf_length]
    have k1 := hw'.n1
    have k2 := hw'.c1
    have k3 := hw'.s0
    simp only []
    refine ev_seq fun K1 h1 => ev_reg mB ?_
    repeat refine dr_act wN mb ma mc mT mR ?_
    refine dr_act wN mb ma (by omega) mT mR ?_
    refine dr_call wN mr mb mx (.cons (fN rfl) (.cons (fN rfl) (.cons (.cell (fB (xs := List.replicate n.toNat 0) (by rw [← rep0]; rfl) (by rw [List.drop_zero, List.take_of_length_le (by rw [List.length_replicate]; exact Nat.le_refl _)]))) .nil))) hcs (Nat.le_of_ble_eq_true rfl) mv mT mN ?_
    repeat refine dr_act wN mb ma mc mT mR ?_
    refine dr_nil ⟨fun _ => by kernel_rfl, h1 _ ?_⟩; clear h1
    refine ev_seq fun K1 h1 => ?_
    refine ev_seq fun K2 h2 => ev_rf mB ?_
    repeat refine dr_act wN mb ma mc mT mR ?_
    refine dr_nil (h2 _ ?_); clear h2
    refine ev_cond false mlq (fun h => by cases h) (fun h => ev_skip (h1 _ ?_))
    clear h1
    refine ev_seq fun K1 h1 => ev_reg mB ?_
    repeat refine dr_act wN mb ma mc mT mR ?_
    refine dr_callF wN mr mb mx mr (c185 g.m g.w hg.w.fits) (Nat.le_of_ble_eq_true rfl) mv mT mN ?_
    repeat refine dr_act wN mb ma mc mT mR ?_
    refine dr_slp (a := g.q) (c := (g.w.n.toNat : Nat)) (v := .ref (216, none) g.q.toNat (g.w.n.toNat - g.q.toNat)) wN mr mb ml mr mr mr mS (by omega) (by simp only [Nat.zero_add, Int.toNat_natCast]) mT ?_
    repeat refine dr_act wN mb ma mc mT mR ?_
    refine dr_nil ⟨fun _ => by kernel_rfl, h1 _ ?_⟩; clear h1
    refine ev_seq fun K1 h1 => ev_reg mB ?_
    repeat refine dr_act wN mb ma mc mT mR ?_
    rw [w1]
    refine dr_call wN mr mb mx (.cons (.agg (.cons (fM mr mr) .nil)) (.cons (fN rfl) (.cons (fN rfl) (.cons (.cell (fB mr (List.take_of_length_le (Nat.le_of_eq hbl)))) .nil)))) (c106 m' w' (g.q + n) ((bytesOf g.m g.w).drop g.q.toNat) hw'.g.l4 hw'.g.r4 ⟨hw'.a0, hw'.a1⟩ (by omega) (by rw [hbl]; omega)) (Nat.le_of_ble_eq_true rfl) mv mT mN ?_
    repeat refine dr_act wN mb ma mc mT mR ?_
    rw [w1]
    refine dr_nil ⟨fun _ => by kernel_rfl, h1 _ (ev_ret ?_)⟩; clear h1
    refine retL [312] (res' := [.cell 4 34, .tmp 5]) mr (.cell nT mZ ma mc mP (.tmp nT mL .nil)) ?_ mr (by decide) ⟨⟨mr, okRM⟩, trivial⟩
    simp only [oGo, oG, cG, wrM_length]; rfl
end Go.Ev
namespace Go.Ev
open Go Go.RowKit Go.Proofs

def slB (xs : List Int) (i j : Int) : List Int := (xs.drop i.toNat).take (j.toNat - i.toNat)
theorem slB_le (xs : List Int) (i j : Int) : (slB xs i j).length ≤ j.toNat - i.toNat := List.length_take_le ..

def mvG (g : Gp) (t : Int) : Gp :=
  if t ≤ g.p then ⟨wrM g.m g.w.a.toNat (g.w.s + (t + (g.q - g.p))).toNat (slB (bytesOf g.m g.w) t g.p), g.w, t, t + (g.q - g.p)⟩
  else ⟨wrM g.m g.w.a.toNat (g.w.s + g.p).toNat (slB (bytesOf g.m g.w) g.q (t + (g.q - g.p))), g.w, t, t + (g.q - g.p)⟩
def mvC (g : Gp) (t : Int) : Int := if t ≤ g.p then g.p - t else t - g.p

/-- An own gap is read. -/
theorem fG {R : Rs} {n : Nat} {g : Gp} (h : R n = some (rM g.m)) : Frz R (oG n g) (eG g) :=
  .agg (.cons (fM h rfl) (.cons (fn rfl) (.cons (fn rfl) (.cons (fn rfl) (.cons (fn rfl) (.cons (fn rfl) (.cons (fn rfl) .nil)))))))

theorem c149 (g : Gp) (t : Int) (hg : GG g) (h0 : 0 ≤ t) (ht : t ≤ g.w.n - (g.q - g.p)) : Good Try.prog 149 [eG g, vi t] (.tup [oG 0 (mvG g t), vi (mvC g t)]) [rM (mvG g t).m] := by
  refine good_of (E := En 75) (fn := Try.f149) (by kernel_rfl) (by kernel_rfl) rfl rfl (by simp only [List.length_cons, List.length_nil]; decide) (fun C0 => ?_)
  simp only [argT, Nat.reduceAdd]
  have hwn := hg.w.c64
  have hwn1 := hg.w.n1
  have hwn0 := hg.w.n0
  have hq := hg.qn
  have hp0 := hg.p0
  have hpq := hg.pq
  have hs0 := hg.w.s0
  have hc1 := hg.w.c1
  have w1 : IntKind.i64.wrap (g.q - g.p) = g.q - g.p := wrap_of (by omega) (by omega)
  have w2 : IntKind.i64.wrap (t + (g.q - g.p)) = t + (g.q - g.p) := wrap_of (by omega) (by omega)
  have w3 : IntKind.i64.wrap (g.p - t) = g.p - t := wrap_of (by omega) (by omega)
  have w4 : IntKind.i64.wrap (t - g.p) = t - g.p := wrap_of (by omega) (by omega)
  refine ev_seq fun K1 h1 => ev_rf mB ?_
  repeat refine dr_act wN mb ma mc mT mR ?_
  refine dr_nil (h1 _ ?_); clear h1 K1
  refine ev_seq fun K1 h1 => ev_reg mB ?_
  repeat refine dr_act wN mb ma mc mT mR ?_
  refine dr_callF wN mr mb mx mr (c185 g.m g.w hg.w.fits) (Nat.le_of_ble_eq_true rfl) mv mT mN ?_
  repeat refine dr_act wN mb ma mc mT mR ?_
  refine dr_nil ⟨fun _ => by kernel_rfl, h1 _ ?_⟩; clear h1
  rw [w1]
  refine ev_seq fun K1 h1 => ?_
  refine ev_seq fun K2 h2 => ev_rf mB ?_
  repeat refine dr_act wN mb ma mc mT mR ?_
  refine dr_nil (h2 _ ?_); clear h2
  refine ev_cond _ ml (fun h => ?_) (fun h => ev_skip (h1 _ ?_)) <;> clear h1
  · have hle := of_decide_eq_true h
    have hsl := slB_le (bytesOf g.m g.w) t g.p
    rw [mvG, mvC, if_pos hle, if_pos hle]
    refine ev_seq fun K1 h1 => ev_reg mB ?_
    repeat refine dr_act wN mb ma mc mT mR ?_
    rw [w2]
    refine dr_slp (a := t) (c := g.p) (v := .ref (56, none) t.toNat (g.p.toNat - t.toNat)) wN mr mb ml mr mr mr mS (by omega) (by simp only [Nat.zero_add]) mT ?_
    refine dr_call wN mr mb mx (.cons (fN rfl) (.cons (fN rfl) (.cons (fN rfl) (.cons (.cell (fB mr rfl)) .nil)))) (c106 g.m g.w (t + (g.q - g.p)) (slB (bytesOf g.m g.w) t g.p) hg.w.g.l4 hg.w.g.r4 ⟨hg.w.a0, hg.w.a1⟩ (by omega) (by omega)) (Nat.le_of_ble_eq_true rfl) mv mT mN ?_
    repeat refine dr_act wN mb ma mc mT mR ?_
    refine dr_nil ⟨fun _ => by kernel_rfl, h1 _ ?_⟩; clear h1
    refine ev_seq fun K1 h1 => ev_reg mB ?_
    repeat refine dr_act wN mb ma mc mT mR ?_
    rw [w2, w3]
    refine dr_nil ⟨fun _ => by kernel_rfl, h1 _ (ev_ret ?_)⟩; clear h1
    refine retL [248] (res' := [.cell 4 34, .tmp 5]) mr (.cell nT mZ ma mc mP (.tmp nT mL .nil)) ?_ mr (by decide) ⟨⟨mr, okRM⟩, trivial⟩
    simp only [oG, cG, wrM_length]; rfl
  · have hgt := of_decide_eq_false h
    have hsl := slB_le (bytesOf g.m g.w) g.q (t + (g.q - g.p))
    rw [mvG, mvC, if_neg hgt, if_neg hgt]
    refine ev_seq fun K1 h1 => ev_reg mB ?_
    repeat refine dr_act wN mb ma mc mT mR ?_
    rw [w2]
    refine dr_slp (a := g.q) (c := t + (g.q - g.p)) (v := .ref (56, none) g.q.toNat ((t + (g.q - g.p)).toNat - g.q.toNat)) wN mr mb ml mr mr mr mS (by omega) (by simp only [Nat.zero_add]) mT ?_
    refine dr_call wN mr mb mx (.cons (fN rfl) (.cons (fN rfl) (.cons (fN rfl) (.cons (.cell (fB mr rfl)) .nil)))) (c106 g.m g.w g.p (slB (bytesOf g.m g.w) g.q (t + (g.q - g.p))) hg.w.g.l4 hg.w.g.r4 ⟨hg.w.a0, hg.w.a1⟩ (by omega) (by omega)) (Nat.le_of_ble_eq_true rfl) mv mT mN ?_
    repeat refine dr_act wN mb ma mc mT mR ?_
    refine dr_nil ⟨fun _ => by kernel_rfl, h1 _ ?_⟩; clear h1
    refine ev_seq fun K1 h1 => ev_reg mB ?_
    repeat refine dr_act wN mb ma mc mT mR ?_
    rw [w2, w4]
    refine dr_nil ⟨fun _ => by kernel_rfl, h1 _ (ev_ret ?_)⟩; clear h1
    refine retL [256] (res' := [.cell 4 34, .tmp 5]) mr (.cell nT mZ ma mc mP (.tmp nT mL .nil)) ?_ mr (by decide) ⟨⟨mr, okRM⟩, trivial⟩
    simp only [oG, cG, wrM_length]; rfl

theorem wdG_GG {g h : Gp} {n : Int} (hg : GG g) (hn : 0 ≤ n) (e : wdG g n = some h) : GG h ∧ h.p = g.p ∧ h.q = g.q + n ∧ h.w.n = g.w.n + n := by
  have h1 := hg.p0
  have h2 := hg.pq
  have h3 := hg.qn
  unfold wdG at e
  split at e
  · cases e
  · split at e
    · cases e
    · rename_i m' w' hap
      simp only [Option.some.injEq] at e
      subst e
      obtain ⟨k, kn⟩ := apM_GW hg.w hap
      rw [List.length_replicate] at kn
      have k1 := k.n1
      have k2 := k.c1
      have k3 := k.s0
      have kl : ((bytesOf g.m g.w).drop g.q.toNat).length = g.w.n.toNat - g.q.toNat := by rw [List.length_drop, bytesOf_length]
      exact ⟨⟨k.wr (by rw [kl]; omega), hg.p0, by show g.p ≤ g.q + n; omega, by show g.q + n ≤ w'.n; omega⟩, rfl, rfl, by show w'.n = _; omega⟩

def ptG (g : Gp) (xs : List Int) : Option Gp :=
  match (if xs.length - (g.q - g.p) > 0 then wdG g (xs.length - (g.q - g.p)) else some g) with
  | none => none
  | some h => some ⟨wrM h.m h.w.a.toNat (h.w.s + h.p).toNat xs, h.w, h.p + xs.length, h.q⟩

theorem c84 (g : Gp) (xs : List Int) (hg : GG g) (hx : xs.length ≤ 1048576) : Good Try.prog 84 [eG g, eB xs] (oGo (ptG g xs)) (rGo (ptG g xs)) := by
  refine good_of (E := En 47) (fn := Try.f84) (by kernel_rfl) (by kernel_rfl) rfl rfl (by simp only [List.length_cons, List.length_nil]; decide) (fun C0 => ?_)
  simp only [argT, Nat.reduceAdd, eB]
  have hwn := hg.w.c64
  have hwn1 := hg.w.n1
  have hwn0 := hg.w.n0
  have hq := hg.qn
  have hp0 := hg.p0
  have hpq := hg.pq
  have hs0 := hg.w.s0
  have hc1 := hg.w.c1
  have w1 : IntKind.i64.wrap (g.q - g.p) = g.q - g.p := wrap_of (by omega) (by omega)
  have w2 : IntKind.i64.wrap ((xs.length : Nat) - (g.q - g.p)) = (xs.length : Nat) - (g.q - g.p) := wrap_of (by omega) (by omega)
  have w3 : IntKind.i64.wrap (g.p + (xs.length : Nat)) = g.p + (xs.length : Nat) := wrap_of (by omega) (by omega)
  iterate 2
    refine ev_seq fun K1 h1 => ev_rf mB ?_
    repeat refine dr_act wN mb ma mc mT mR ?_
    refine dr_nil (h1 _ ?_); clear h1 K1
  refine ev_seq fun K1 h1 => ?_
  refine ev_seq fun K2 h2 => ev_rf mB ?_
  repeat refine dr_act wN mb ma mc mT mR ?_
  rw [w1, w2]
  refine dr_nil (h2 _ ?_); clear h2
  refine ev_seq fun K2 h2 => ev_rf mB ?_
  repeat refine dr_act wN mb ma mc mT mR ?_
  refine dr_nil (h2 _ ?_); clear h2
  refine ev_cond _ ml (fun h => ?_) (fun h => ev_skip ?_)
  · have hgt := of_decide_eq_true h
    have hcs := c145 g ((xs.length : Nat) - (g.q - g.p)) hg (by omega) (by omega)
    rcases hwd : wdG g ((xs.length : Nat) - (g.q - g.p)) with _ | v
    · have e : ptG g xs = none := by rw [ptG, if_pos hgt, hwd]
      rw [hwd] at hcs
      rw [e]
      refine ev_seq fun K2 h2 => ev_rf mB ?_
      repeat refine dr_act wN mb ma mc mT mR ?_
      refine dr_callF wN mr mb mx mr hcs (Nat.le_of_ble_eq_true rfl) mv mT mN ?_
      repeat refine dr_act wN mb ma mc mT mR ?_
      refine dr_nil (h2 _ ?_); clear h2
      refine ev_seq fun K2 h2 => ?_
      refine ev_seq fun K3 h3 => ev_rf mB ?_
      repeat refine dr_act wN mb ma mc mT mR ?_
      refine dr_nil (h3 _ ?_); clear h3
      refine ev_cond true mlq (fun h => ?_) (fun h => by cases h)
      refine ev_seq fun K3 h3 => ev_rf mB ?_
      repeat refine dr_act wN mb ma mc mT mR ?_
      refine dr_nil (h3 _ (ev_ret ?_)); clear h3 h2 h1
      exact retL [] (res' := [.cell 4 34, .tmp 5]) mr (.cell nT mZ ma mc mP (.tmp nT mL .nil)) rfl mr (by decide) trivial
    · have e : ptG g xs = some ⟨wrM v.m v.w.a.toNat (v.w.s + v.p).toNat xs, v.w, v.p + xs.length, v.q⟩ := by rw [ptG, if_pos hgt, hwd]
      obtain ⟨gv, vp, vq, vn⟩ := wdG_GG hg (by omega) hwd
      have k1 := gv.w.n1
      have k2 := gv.w.c1
      have k3 := gv.w.s0
      have k4 := gv.qn
      have w4 : IntKind.i64.wrap (v.p + (xs.length : Nat)) = v.p + (xs.length : Nat) := wrap_of (by omega) (by omega)
      rw [hwd] at hcs
      rw [e] at h1 ⊢
      refine ev_seq fun K2 h2 => ev_rf mB ?_
      repeat refine dr_act wN mb ma mc mT mR ?_
      refine dr_callF wN mr mb mx mr hcs (Nat.le_of_ble_eq_true rfl) mv mT mN ?_
      repeat refine dr_act wN mb ma mc mT mR ?_
      refine dr_nil (h2 _ ?_); clear h2
      refine ev_seq fun K2 h2 => ?_
      refine ev_seq fun K3 h3 => ev_rf mB ?_
      repeat refine dr_act wN mb ma mc mT mR ?_
      refine dr_nil (h3 _ ?_); clear h3
      refine ev_cond false mlq (fun h => by cases h) (fun h => ev_skip (h2 _ ?_)); clear h2
      refine ev_rf mB ?_
      repeat refine dr_act wN mb ma mc mT mR ?_
      refine dr_nil (h1 _ ?_); clear h1
      refine ev_seq fun K1 h1 => ev_rf mB ?_
      repeat refine dr_act wN mb ma mc mT mR ?_
      refine dr_call wN mr mb mx (.cons (.agg (.cons (fM mr mr) .nil)) (.cons (fN rfl) (.cons (fN rfl) (.cons (fN rfl) .nil)))) (c106 v.m v.w v.p xs gv.w.g.l4 gv.w.g.r4 ⟨gv.w.a0, gv.w.a1⟩ (by omega) (by omega)) (Nat.le_of_ble_eq_true rfl) mv mT mN ?_
      repeat refine dr_act wN mb ma mc mT mR ?_
      refine dr_nil (h1 _ ?_); clear h1
      iterate 2
        refine ev_seq fun K1 h1 => ev_rf mB ?_
        repeat refine dr_act wN mb ma mc mT mR ?_
        refine dr_nil (h1 _ ?_); clear h1
      rw [w4]
      refine ev_ret ?_
      refine retL [296] (res' := [.cell 4 34, .tmp 5]) mr (.cell nT mZ ma mc mP (.tmp nT mL .nil)) ?_ mr (by decide) ⟨⟨mr, okRM⟩, trivial⟩
      simp only [oGo, oG, cG, wrM_length]; rfl
  · have hle := of_decide_eq_false h
    have e : ptG g xs = some ⟨wrM g.m g.w.a.toNat (g.w.s + g.p).toNat xs, g.w, g.p + xs.length, g.q⟩ := by rw [ptG, if_neg hle]
    rw [e] at h1
    refine h1 _ ?_; clear h1
    refine ev_seq fun K1 h1 => ev_rf mB ?_
    repeat refine dr_act wN mb ma mc mT mR ?_
    refine dr_callF wN mr mb mx mr (c106 g.m g.w g.p xs hg.w.g.l4 hg.w.g.r4 ⟨hg.w.a0, hg.w.a1⟩ (by omega) (by omega)) (Nat.le_of_ble_eq_true rfl) mv mT mN ?_
    repeat refine dr_act wN mb ma mc mT mR ?_
    refine dr_nil (h1 _ ?_); clear h1
    iterate 2
      refine ev_seq fun K1 h1 => ev_rf mB ?_
      repeat refine dr_act wN mb ma mc mT mR ?_
      refine dr_nil (h1 _ ?_); clear h1
    rw [w3]
    refine ev_ret ?_
    refine retL [192] (res' := [.cell 4 34, .tmp 5]) mr (.cell nT mZ ma mc mP (.tmp nT mL .nil)) ?_ mr (by decide) ⟨⟨mr, okRM⟩, trivial⟩
    simp only [oGo, oG, cG, wrM_length]; rfl
end Go.Ev
namespace Go.Ev
open Go Go.RowKit Go.Proofs

def okRow (r : List Int) : Bool := decide ((1 : Int) ≤ (r.length : Int) ∧ (r.length : Int) ≤ 64)
def okM (m : List (List Int)) : Bool := (m.take 17).all okRow && decide ((m.length : Int) ≤ 16)

theorem c164 (m : List (List Int)) (hm : m.length ≤ 9223372036854775806) : Good Try.prog 164 [eMem m] (vb (okM m)) [] := by
  refine good_of (E := En 27) (fn := Try.f164) (by kernel_rfl) (by kernel_rfl) rfl rfl (by simp only [List.length_cons, List.length_nil]; decide) (fun C0 => ?_)
  simp only [argT, Nat.reduceAdd]
  refine ev_seq fun K1 h1 => ev_rf mB ?_
  repeat refine dr_act wN mb ma mc mT mR ?_
  refine dr_nil (h1 _ ?_); clear h1 K1
  refine ev_seq fun K1 h1 => ?_
  refine ev_seq fun K2 h2 => ev_rf mB ?_
  repeat refine dr_act wN mb ma mc mT mR ?_
  refine dr_nil (h2 _ ?_); clear h2 K2
  refine ev_block (ev_loop (α := {i : Nat // i ≤ m.length ∧ i ≤ 17 ∧ (m.take i).all okRow = true}) (fun i => ⟨[(1, .ptr (0, none) 0 0), (3, vi i.1)], [(0, ⟨31, 1, [[eM m]]⟩)], 24⟩) (fun i => 17 - i.1) ⟨0, by simp⟩ (weak_ren [] mK mK mD mQ) (fun ⟨i, hi, hi17, hall⟩ => ?_))
  refine ev_seq fun K2 h2 => ev_seq fun K3 h3 => ev_rf mB ?_
  repeat refine dr_act wN mb ma mc mT mR ?_
  cases hd : decide ((i : Int) < m.length) <;> repeat (first | refine dr_act wN mb ma mc mT mR ?_ | refine dr_act wG mb ma mc mT mR ?_ | refine dr_skip wG mT ?_)
  all_goals (refine dr_nil (h3 _ ?_); clear h3)
  · refine ev_cond _ ml (fun h => by cases h) (fun _ => ev_exit ?_)
    simp only [seqK, loopK, blkK, ↓reduceIte]
    refine h1 _ ?_; clear h1 h2
    have hle : m.length = i := by have := of_decide_eq_false hd; omega
    refine ev_seq fun K1 h1 => ev_rf mB ?_
    repeat refine dr_act wN mb ma mc mT mR ?_
    refine dr_nil (h1 _ ?_); clear h1
    refine ev_ret ?_
    refine retT [2] (hv := ?_)
    show vb _ = vb _
    have : m.take 17 = m := List.take_of_length_le (by omega)
    have h2 : m.take i = m := List.take_of_length_le (by omega)
    rw [h2] at hall
    simp [okM, this, hall]
  refine ev_cond _ ml (fun h => ev_skip (h2 _ ?_)) (fun h => ev_exit ?_)
  · clear h1 h2
    have hlt := of_decide_eq_true hd
    refine ev_seq fun K2 h2 => ev_block (ev_seq fun K4 h4 => ev_rf mB ?_)
    repeat refine dr_act wN mb ma mc mT mR ?_
    refine dr_ix ([] : List Int) wN mr mb ml ml mS ⟨by omega, hlt⟩ mT ?_
    repeat refine dr_act wN mb ma mc mT mR ?_
    refine dr_callF wN mr mb mx mr (c133 _ _ _) mc mv mT mN ?_
    repeat refine dr_act wN mb ma mc mT mR ?_
    refine dr_nil (h4 _ ?_); clear h4 K4
    have hg : m.getD i [] = m[i]'(by omega) := by simp [List.getD_eq_getElem?_getD, show i < m.length by omega]
    have h16 := of_decide_eq_true h
    refine ev_cond _ ml (fun hb => ?_) (fun hb => ev_skip ?_)
    · refine ev_seq fun K5 h5 => ev_rf mB ?_
      repeat refine dr_act wN mb ma mc mT mR ?_
      refine dr_nil (h5 _ ?_); clear h5
      refine ev_ret ?_
      refine retT [2] (hv := ?_)
      show vb _ = vb _
      have hno : okRow (m[i]'(by omega)) = false := by rw [hg] at hb; rw [Bool.not_eq_true'] at hb; exact hb
      have : (m.take 17).all okRow = false := by
        rw [List.all_eq_false]
        refine ⟨m[i]'(by omega), ?_, by simp [hno]⟩
        exact List.mem_take_iff_getElem.2 ⟨i, by omega, rfl⟩
      simp [okM, this]
    · simp only [blkK, seqK]
      refine h2 _ (ev_rf mB ?_)
      repeat refine dr_act wN mb ma mc mT mR ?_
      refine dr_nil ⟨⟨i + 1, by omega, by omega, ?_⟩, by simp only []; omega, ?_⟩
      · rw [List.take_succ_eq_append_getElem (by omega), List.all_append, hall]
        rw [hg] at hb
        simpa [okRow] using hb
      · rw [w64p (n := m.length) (by omega) (by omega)]
        exact weak_ren [] mK mK mD mQ
  · simp only [seqK, loopK, blkK, ↓reduceIte]
    refine h1 _ ?_; clear h1 h2
    have h17 : i = 17 := by have := of_decide_eq_false h; omega
    have hlt := of_decide_eq_true hd
    refine ev_seq fun K1 h1 => ev_rf mB ?_
    repeat refine dr_act wN mb ma mc mT mR ?_
    refine dr_nil (h1 _ ?_); clear h1
    refine ev_ret ?_
    refine retT [2] (hv := ?_)
    show vb _ = vb _
    have : decide ((m.length : Int) ≤ 16) = false := by simp; omega
    simp [okM, this]
end Go.Ev
namespace Go.Ev
open Go Go.RowKit Go.Proofs

def okW (m : List (List Int)) (w : Win) : Bool :=
  okM m && decide (0 ≤ w.a ∧ w.a ≤ (m.length : Nat) - 1) && decide (0 ≤ w.s ∧ w.s ≤ (m.getD w.a.toNat []).length) && decide (0 ≤ w.c ∧ w.c ≤ (m.getD w.a.toNat []).length - w.s) && decide (0 ≤ w.n ∧ w.n ≤ w.c)
def okG (g : Gp) : Bool := okW g.m g.w && decide (0 ≤ g.q ∧ g.q ≤ g.w.n) && decide (0 ≤ g.p ∧ g.p ≤ g.q)

theorem okM_GM {m : List (List Int)} (h : okM m = true) : GM m := by
  simp only [okM, Bool.and_eq_true, decide_eq_true_eq] at h
  have hl : m.length ≤ 16 := by omega
  rw [List.take_of_length_le (by omega)] at h
  refine ⟨hl, fun r hr => ?_, fun r hr => ?_⟩
  all_goals
    have := List.all_eq_true.1 h.1 r hr
    simp only [okRow, decide_eq_true_eq] at this
    omega

theorem okW_GW {m : List (List Int)} {w : Win} (h : okW m w = true) : GW m w := by
  simp only [okW, Bool.and_eq_true, decide_eq_true_eq] at h
  obtain ⟨⟨⟨⟨h1, h2⟩, h3⟩, h4⟩, h5⟩ := h
  exact ⟨okM_GM h1, h2.1, by omega, h3.1, h5.1, h5.2, by omega⟩

theorem okG_GG {g : Gp} (h : okG g = true) : GG g := by
  simp only [okG, Bool.and_eq_true, decide_eq_true_eq] at h
  exact ⟨okW_GW h.1.1, h.2.1, h.2.2, h.1.2.2⟩

theorem GM_okM {m : List (List Int)} (h : GM m) : okM m = true := by
  have hl := h.l
  simp only [okM, Bool.and_eq_true, decide_eq_true_eq]
  refine ⟨List.all_eq_true.2 fun r hr => ?_, by omega⟩
  have hr' := List.mem_of_mem_take hr
  have h1 := h.r r hr'
  have h2 := h.p r hr'
  simp only [okRow, decide_eq_true_eq]
  omega

theorem GG_okG {g : Gp} (h : GG g) : okG g = true := by
  have h1 := h.p0
  have h2 := h.pq
  have h3 := h.qn
  have h4 := h.w.a0
  have h5 := h.w.a1
  have h6 := h.w.s0
  have h7 := h.w.n0
  have h8 := h.w.n1
  have h9 := h.w.c1
  simp only [okG, okW, Bool.and_eq_true, decide_eq_true_eq]
  exact ⟨⟨⟨⟨⟨⟨GM_okM h.w.g, by omega⟩, by omega⟩, by omega⟩, by omega⟩, by omega⟩, by omega⟩

theorem c144 (m : List (List Int)) (w : Win) (hl1 : m.length ≤ 1048576) (hl2 : ∀ r, r ∈ m → r.length ≤ 1048576) : Good Try.prog 144 [eMem m, eW w] (vb (okW m w)) [] := by
  refine good_of (E := En 46) (fn := Try.f144) (by kernel_rfl) (by kernel_rfl) rfl rfl (by simp only [List.length_cons, List.length_nil]; decide) (fun C0 => ?_)
  have w1 : IntKind.i64.wrap ((m.length : Nat) - 1) = (m.length : Nat) - 1 := wrap_of (by omega) (by omega)
  simp only [argT, Nat.reduceAdd]
  refine ev_seq fun K1 h1 => ev_rf mB ?_
  repeat refine dr_act wN mb ma mc mT mR ?_
  refine dr_nil (h1 _ ?_); clear h1 K1
  refine ev_seq fun K1 h1 => ?_
  refine ev_seq fun K2 h2 => ev_rf mB ?_
  repeat refine dr_act wN mb ma mc mT mR ?_
  refine dr_callF wN mr mb mx mr (c164 m (by omega)) (Nat.le_of_ble_eq_true rfl) mv mT mN ?_
  cases hM : okM m
  · repeat refine dr_act wN mb ma mc mT mR ?_
    iterate 8 refine dr_skip wG mT ?_
    repeat refine dr_act wN mb ma mc mT mR ?_
    refine dr_nil (h2 _ ?_); clear h2
    refine ev_cond true mlq (fun h => ?_) (fun h => by cases h)
    refine ev_seq fun K2 h2 => ev_rf mB ?_
    repeat refine dr_act wN mb ma mc mT mR ?_
    refine dr_nil (h2 _ (ev_ret ?_)); clear h2 h1
    exact retT [4] (hv := by rw [okW, hM]; rfl)
  repeat refine dr_act wN mb ma mc mT mR ?_
  repeat refine dr_act wG mb ma mc mT mR ?_
  rw [w1]
  refine dr_callF wG mr mb mx mr (c133 w.a 0 ((m.length : Nat) - 1)) (Nat.le_of_ble_eq_true rfl) mv mT mN ?_
  refine dr_act wG mb ma mc mT mR ?_
  repeat refine dr_act wN mb ma mc mT mR ?_
  refine dr_nil (h2 _ ?_); clear h2
  cases hA : decide (0 ≤ w.a ∧ w.a ≤ (m.length : Nat) - 1)
  · refine ev_cond true mlq (fun h => ?_) (fun h => by cases h)
    refine ev_seq fun K2 h2 => ev_rf mB ?_
    repeat refine dr_act wN mb ma mc mT mR ?_
    refine dr_nil (h2 _ (ev_ret ?_)); clear h2 h1
    exact retT [4] (hv := by rw [okW, hM, hA]; rfl)
  refine ev_cond false mlq (fun h => by cases h) (fun h => ev_skip (h1 _ ?_)); clear h1
  have ha := of_decide_eq_true hA
  have hrow : (m.getD w.a.toNat []).length ≤ 1048576 := mem_getD hl2 (by omega)
  refine ev_seq fun K1 h1 => ev_rf mB ?_
  repeat refine dr_act wN mb ma mc mT mR ?_
  refine dr_ix ([] : List Int) wN mr mb (by simp only [En_nt, lookO, lookT, Nat.reduceEqDiff, Nat.reduceLT, ↓reduceIte]; rfl) ml mS (by omega) mT ?_
  repeat refine dr_act wN mb ma mc mT mR ?_
  refine dr_nil (h1 _ ?_); clear h1
  refine ev_seq fun K1 h1 => ev_rf mB ?_
  repeat refine dr_act wN mb ma mc mT mR ?_
  refine dr_callF wN mr mb mx mr (c133 w.s 0 _) (Nat.le_of_ble_eq_true rfl) mv mT mN ?_
  repeat refine dr_act wN mb ma mc mT mR ?_
  cases hS : decide (0 ≤ w.s ∧ w.s ≤ ((m.getD w.a.toNat []).length : Nat))
  · iterate 7 refine dr_skip wG mT ?_
    repeat refine dr_act wN mb ma mc mT mR ?_
    iterate 5 refine dr_skip wG mT ?_
    repeat refine dr_act wN mb ma mc mT mR ?_
    refine dr_nil (h1 _ (ev_ret ?_)); clear h1
    exact retT [4] (hv := by rw [okW, hM, hA, hS]; rfl)
  have hs := of_decide_eq_true hS
  have w2 : IntKind.i64.wrap (((m.getD w.a.toNat []).length : Nat) - w.s) = ((m.getD w.a.toNat []).length : Nat) - w.s := wrap_of (by omega) (by omega)
  repeat refine dr_act wG mb ma mc mT mR ?_
  rw [w2]
  refine dr_callF wG mr mb mx mr (c133 w.c 0 _) (Nat.le_of_ble_eq_true rfl) mv mT mN ?_
  repeat refine dr_act wN mb ma mc mT mR ?_
  cases hC : decide (0 ≤ w.c ∧ w.c ≤ ((m.getD w.a.toNat []).length : Nat) - w.s)
  · iterate 5 refine dr_skip wG mT ?_
    repeat refine dr_act wN mb ma mc mT mR ?_
    refine dr_nil (h1 _ (ev_ret ?_)); clear h1
    exact retT [4] (hv := by rw [okW, hM, hA, hS, hC]; rfl)
  repeat refine dr_act wG mb ma mc mT mR ?_
  refine dr_callF wG mr mb mx mr (c133 w.n 0 w.c) (Nat.le_of_ble_eq_true rfl) mv mT mN ?_
  repeat refine dr_act wN mb ma mc mT mR ?_
  refine dr_nil (h1 _ (ev_ret ?_)); clear h1
  exact retT [4] (hv := by rw [okW, hM, hA, hS, hC]; rfl)

theorem c83 (g : Gp) (hl1 : g.m.length ≤ 1048576) (hl2 : ∀ r, r ∈ g.m → r.length ≤ 1048576) : Good Try.prog 83 [eG g] (vb (okG g)) [] := by
  refine good_of (E := En 23) (fn := Try.f83) (by kernel_rfl) (by kernel_rfl) rfl rfl (by simp only [List.length_cons, List.length_nil]; decide) (fun C0 => ?_)
  simp only [argT, Nat.reduceAdd]
  refine ev_seq fun K1 h1 => ev_rf mB ?_
  repeat refine dr_act wN mb ma mc mT mR ?_
  refine dr_nil (h1 _ ?_); clear h1 K1
  refine ev_seq fun K1 h1 => ev_rf mB ?_
  repeat refine dr_act wN mb ma mc mT mR ?_
  refine dr_callF wN mr mb mx mr (c144 g.m g.w hl1 hl2) (Nat.le_of_ble_eq_true rfl) mv mT mN ?_
  repeat refine dr_act wN mb ma mc mT mR ?_
  cases hW : okW g.m g.w
  · iterate 6 refine dr_skip wG mT ?_
    repeat refine dr_act wN mb ma mc mT mR ?_
    iterate 5 refine dr_skip wG mT ?_
    repeat refine dr_act wN mb ma mc mT mR ?_
    refine dr_nil (h1 _ (ev_ret ?_)); clear h1
    exact retT [2] (hv := by rw [okG, hW]; rfl)
  repeat refine dr_act wG mb ma mc mT mR ?_
  refine dr_callF wG mr mb mx mr (c133 g.q 0 g.w.n) (Nat.le_of_ble_eq_true rfl) mv mT mN ?_
  repeat refine dr_act wN mb ma mc mT mR ?_
  cases hQ : decide (0 ≤ g.q ∧ g.q ≤ g.w.n)
  · iterate 5 refine dr_skip wG mT ?_
    repeat refine dr_act wN mb ma mc mT mR ?_
    refine dr_nil (h1 _ (ev_ret ?_)); clear h1
    exact retT [2] (hv := by rw [okG, hW, hQ]; rfl)
  repeat refine dr_act wG mb ma mc mT mR ?_
  refine dr_callF wG mr mb mx mr (c133 g.p 0 g.q) (Nat.le_of_ble_eq_true rfl) mv mT mN ?_
  repeat refine dr_act wN mb ma mc mT mR ?_
  refine dr_nil (h1 _ (ev_ret ?_)); clear h1
  exact retT [2] (hv := by rw [okG, hW, hQ]; rfl)
end Go.Ev
namespace Go.Ev
open Go Go.RowKit Go.Proofs

abbrev lgG (g : Gp) : Int := g.w.n - (g.q - g.p)

theorem mvG_GG {g : Gp} {t : Int} (hg : GG g) (h0 : 0 ≤ t) (ht : t ≤ lgG g) : GG (mvG g t) ∧ (mvG g t).p = t ∧ (mvG g t).q = t + (g.q - g.p) ∧ (mvG g t).w = g.w := by
  have ht : t ≤ g.w.n - (g.q - g.p) := ht
  have h1 := hg.p0
  have h2 := hg.pq
  have h3 := hg.qn
  have h4 := hg.w.n1
  have h5 := hg.w.c1
  have h6 := hg.w.s0
  unfold mvG
  split
  · rename_i hle
    have hsl := slB_le (bytesOf g.m g.w) t g.p
    exact ⟨⟨hg.w.wr (by omega), h0, by show t ≤ t + _; omega, by show t + _ ≤ g.w.n; omega⟩, rfl, rfl, rfl⟩
  · rename_i hle
    have hsl := slB_le (bytesOf g.m g.w) g.q (t + (g.q - g.p))
    exact ⟨⟨hg.w.wr (by omega), h0, by show t ≤ t + _; omega, by show t + _ ≤ g.w.n; omega⟩, rfl, rfl, rfl⟩

def edG (g : Gp) (e : Ed) : Option (Gp × Int) :=
  if (0 ≤ e.at_ ∧ e.at_ ≤ lgG g) ∧ 0 ≤ e.n ∧ e.n ≤ lgG g - e.at_ then
    match ptG ⟨(mvG g e.at_).m, (mvG g e.at_).w, (mvG g e.at_).p, (mvG g e.at_).q + e.n⟩ e.s with
    | none => none
    | some h => some (h, mvC g e.at_)
  else none

abbrev oGC : Option (Gp × Int) → V
  | some (g, c) => .tup [oG 0 g, vi c, vb true]
  | none => .tup [zG, vi 0, vb false]
abbrev rGC : Option (Gp × Int) → List Root
  | some (g, _) => [rM g.m]
  | none => []

theorem c90 (g : Gp) (e : Ed) (hg : GG g) (hx : e.s.length ≤ 1048576) : Good Try.prog 90 [eG g, eE e] (oGC (edG g e)) (rGC (edG g e)) := by
  refine good_of (E := En 56) (fn := Try.f90) (by kernel_rfl) (by kernel_rfl) rfl rfl (by simp only [List.length_cons, List.length_nil]; decide) (fun C0 => ?_)
  simp only [argT, Nat.reduceAdd]
  have hwn := hg.w.c64
  have hwn1 := hg.w.n1
  have hwn0 := hg.w.n0
  have hq := hg.qn
  have hp0 := hg.p0
  have hpq := hg.pq
  have hlg : lgG g = g.w.n - (g.q - g.p) := rfl
  have w1 : w64 (g.w.n - w64 (g.q - g.p)) = lgG g := by
    have : w64 (g.q - g.p) = g.q - g.p := wrap_of (by omega) (by omega)
    rw [this]; exact wrap_of (by omega) (by omega)
  refine ev_seq fun K1 h1 => ev_rf mB ?_
  repeat refine dr_act wN mb ma mc mT mR ?_
  refine dr_nil (h1 _ ?_); clear h1 K1
  refine ev_seq fun K1 h1 => ?_
  refine ev_seq fun K2 h2 => ev_reg mB ?_
  repeat refine dr_act wN mb ma mc mT mR ?_
  refine dr_callF wN mr mb mx mr (c148 g) (Nat.le_of_ble_eq_true rfl) mv mT mN ?_
  rw [w1]
  refine dr_callF wN mr mb mx mr (c133 e.at_ 0 (lgG g)) (Nat.le_of_ble_eq_true rfl) mv mT mN ?_
  cases hA : decide (0 ≤ e.at_ ∧ e.at_ ≤ lgG g)
  · have hn : edG g e = none := by rw [edG, if_neg fun h => of_decide_eq_false hA h.1]
    rw [hn] at h1 h2 ⊢
    repeat refine dr_act wN mb ma mc mT mR ?_
    iterate 9 refine dr_skip wG mT ?_
    repeat refine dr_act wN mb ma mc mT mR ?_
    refine dr_nil ⟨fun _ => by kernel_rfl, h2 _ ?_⟩; clear h2
    refine ev_cond true mlq (fun h => ?_) (fun h => by cases h)
    refine ev_seq fun K2 h2 => ev_rf mB ?_
    repeat refine dr_act wN mb ma mc mT mR ?_
    refine dr_nil (h2 _ (ev_ret ?_)); clear h2 h1
    exact retL [] (res' := [.cell 4 34, .tmp 5, .tmp 6]) mr (.cell nT mZ ma mc mP (.tmp nT mL (.tmp nT mL .nil))) rfl mr (by decide) trivial
  have ha := of_decide_eq_true hA
  have w2 : IntKind.i64.wrap (lgG g - e.at_) = lgG g - e.at_ := wrap_of (by omega) (by omega)
  repeat refine dr_act wN mb ma mc mT mR ?_
  repeat refine dr_act wG mb ma mc mT mR ?_
  refine dr_callF wG mr mb mx mr (c148 g) (Nat.le_of_ble_eq_true rfl) mv mT mN ?_
  rw [w1]
  repeat refine dr_act wG mb ma mc mT mR ?_
  rw [w2]
  refine dr_callF wG mr mb mx mr (c133 e.n 0 (lgG g - e.at_)) (Nat.le_of_ble_eq_true rfl) mv mT mN ?_
  refine dr_act wG mb ma mc mT mR ?_
  repeat refine dr_act wN mb ma mc mT mR ?_
  refine dr_nil ⟨fun _ => by kernel_rfl, h2 _ ?_⟩; clear h2
  cases hB : decide (0 ≤ e.n ∧ e.n ≤ lgG g - e.at_)
  · have hn : edG g e = none := by rw [edG, if_neg fun h => of_decide_eq_false hB h.2]
    rw [hn] at h1 ⊢
    refine ev_cond true mlq (fun h => ?_) (fun h => by cases h)
    refine ev_seq fun K2 h2 => ev_rf mB ?_
    repeat refine dr_act wN mb ma mc mT mR ?_
    refine dr_nil (h2 _ (ev_ret ?_)); clear h2 h1
    exact retL [] (res' := [.cell 4 34, .tmp 5, .tmp 6]) mr (.cell nT mZ ma mc mP (.tmp nT mL (.tmp nT mL .nil))) rfl mr (by decide) trivial
  have hb := of_decide_eq_true hB
  refine ev_cond false mlq (fun h => by cases h) (fun h => ev_skip (h1 _ ?_)); clear h1
  obtain ⟨gv, vp, vq, vw⟩ := mvG_GG hg ha.1 ha.2
  have hcm := c149 g e.at_ hg ha.1 ha.2
  rw [edG, if_pos ⟨ha, hb⟩]
  generalize mvG g e.at_ = v at *
  generalize mvC g e.at_ = cst at *
  have w3 : IntKind.i64.wrap (v.q + e.n) = v.q + e.n := wrap_of (by omega) (by omega)
  have hgp : GG ⟨v.m, v.w, v.p, v.q + e.n⟩ := ⟨gv.w, gv.p0, by show v.p ≤ v.q + _; omega, by show v.q + e.n ≤ v.w.n; rw [vw]; omega⟩
  have hcp := c84 ⟨v.m, v.w, v.p, v.q + e.n⟩ e.s hgp hx
  refine ev_seq fun K1 h1 => ev_rf mB ?_
  repeat refine dr_act wN mb ma mc mT mR ?_
  refine dr_callF wN mr mb mx mr hcm (Nat.le_of_ble_eq_true rfl) mv mT mN ?_
  repeat refine dr_act wN mb ma mc mT mR ?_
  refine dr_nil (h1 _ ?_); clear h1
  rcases hpt : ptG ⟨v.m, v.w, v.p, v.q + e.n⟩ e.s with _ | r
  · rw [hpt] at hcp
    simp only []
    refine ev_seq fun K1 h1 => ev_reg mB ?_
    repeat refine dr_act wN mb ma mc mT mR ?_
    rw [w3]
    refine dr_call wN mr mb mx (.cons (fG mr) (.cons (fN rfl) (.cons (fN rfl) .nil))) (c94 v v.p (v.q + e.n) gv.w.g.l4 gv.w.g.r4) (Nat.le_of_ble_eq_true rfl) mv mT mN ?_
    repeat refine dr_act wN mb ma mc mT mR ?_
    refine dr_call wN mr mb mx (.cons (fG (g := ⟨v.m, v.w, v.p, v.q + e.n⟩) mr) (.cons (fN rfl) .nil)) hcp (Nat.le_of_ble_eq_true rfl) mv mT mN ?_
    repeat refine dr_act wN mb ma mc mT mR ?_
    refine dr_nil ⟨fun _ => by kernel_rfl, h1 _ ?_⟩; clear h1
    refine ev_seq fun K1 h1 => ?_
    refine ev_seq fun K2 h2 => ev_rf mB ?_
    repeat refine dr_act wN mb ma mc mT mR ?_
    refine dr_nil (h2 _ ?_); clear h2
    refine ev_cond true mlq (fun h => ?_) (fun h => by cases h)
    refine ev_seq fun K2 h2 => ev_rf mB ?_
    repeat refine dr_act wN mb ma mc mT mR ?_
    refine dr_nil (h2 _ (ev_ret ?_)); clear h2 h1
    exact retL [] (res' := [.cell 4 34, .tmp 5, .tmp 6]) mr (.cell nT mZ ma mc mP (.tmp nT mL (.tmp nT mL .nil))) rfl mr (by decide) trivial
  · rw [hpt] at hcp
    simp only []
    refine ev_seq fun K1 h1 => ev_reg mB ?_
    repeat refine dr_act wN mb ma mc mT mR ?_
    rw [w3]
    refine dr_call wN mr mb mx (.cons (fG mr) (.cons (fN rfl) (.cons (fN rfl) .nil))) (c94 v v.p (v.q + e.n) gv.w.g.l4 gv.w.g.r4) (Nat.le_of_ble_eq_true rfl) mv mT mN ?_
    repeat refine dr_act wN mb ma mc mT mR ?_
    refine dr_call wN mr mb mx (.cons (fG (g := ⟨v.m, v.w, v.p, v.q + e.n⟩) mr) (.cons (fN rfl) .nil)) hcp (Nat.le_of_ble_eq_true rfl) mv mT mN ?_
    repeat refine dr_act wN mb ma mc mT mR ?_
    refine dr_nil ⟨fun _ => by kernel_rfl, h1 _ ?_⟩; clear h1
    refine ev_seq fun K1 h1 => ?_
    refine ev_seq fun K2 h2 => ev_rf mB ?_
    repeat refine dr_act wN mb ma mc mT mR ?_
    refine dr_nil (h2 _ ?_); clear h2
    refine ev_cond false mlq (fun h => by cases h) (fun h => ev_skip (h1 _ ?_)); clear h1
    refine ev_seq fun K1 h1 => ev_rf mB ?_
    repeat refine dr_act wN mb ma mc mT mR ?_
    refine dr_nil (h1 _ (ev_ret ?_)); clear h1
    exact retL [344] (res' := [.cell 4 34, .tmp 5, .tmp 6]) mr (.cell nT mZ ma mc mP (.tmp nT mL (.tmp nT mL .nil))) rfl mr (by decide) ⟨⟨mr, okRM⟩, trivial⟩

def dE (g : Gp) (e : Ed) : Option (Gp × Int) := if okG g = true then edG g e else none

theorem c24 (g : Gp) (e : Ed) (hl1 : g.m.length ≤ 1048576) (hl2 : ∀ r, r ∈ g.m → r.length ≤ 1048576) (hx : e.s.length ≤ 1048576) : Good Try.prog 24 [eG g, eE e] (oGC (dE g e)) (rGC (dE g e)) := by
  refine good_of (E := En 17) (fn := Try.f24) (by kernel_rfl) (by kernel_rfl) rfl rfl (by simp only [List.length_cons, List.length_nil]; decide) (fun C0 => ?_)
  simp only [argT, Nat.reduceAdd]
  refine ev_seq fun K1 h1 => ev_rf mB ?_
  repeat refine dr_act wN mb ma mc mT mR ?_
  refine dr_nil (h1 _ ?_); clear h1 K1
  refine ev_seq fun K1 h1 => ?_
  refine ev_seq fun K2 h2 => ev_rf mB ?_
  repeat refine dr_act wN mb ma mc mT mR ?_
  refine dr_callF wN mr mb mx mr (c83 g hl1 hl2) (Nat.le_of_ble_eq_true rfl) mv mT mN ?_
  cases hG : okG g
  · have hn : dE g e = none := by rw [dE, if_neg (by rw [hG]; decide)]
    rw [hn] at h1 h2 ⊢
    repeat refine dr_act wN mb ma mc mT mR ?_
    refine dr_nil (h2 _ ?_); clear h2
    refine ev_cond true mlq (fun h => ?_) (fun h => by cases h)
    refine ev_seq fun K2 h2 => ev_rf mB ?_
    repeat refine dr_act wN mb ma mc mT mR ?_
    refine dr_nil (h2 _ (ev_ret ?_)); clear h2 h1
    exact retL [] (res' := [.cell 4 34, .tmp 5, .tmp 6]) mr (.cell nT mZ ma mc mP (.tmp nT mL (.tmp nT mL .nil))) rfl mr (by decide) trivial
  have hn : dE g e = edG g e := by rw [dE, if_pos hG]
  have hce := c90 g e (okG_GG hG) hx
  rw [hn] at h1 h2 ⊢
  repeat refine dr_act wN mb ma mc mT mR ?_
  refine dr_nil (h2 _ ?_); clear h2
  refine ev_cond false mlq (fun h => by cases h) (fun h => ev_skip (h1 _ ?_)); clear h1
  rcases hed : edG g e with _ | ⟨r, c⟩
  · rw [hed] at hce
    refine ev_seq fun K1 h1 => ev_rf mB ?_
    repeat refine dr_act wN mb ma mc mT mR ?_
    refine dr_callF wN mr mb mx mr hce (Nat.le_of_ble_eq_true rfl) mv mT mN ?_
    repeat refine dr_act wN mb ma mc mT mR ?_
    refine dr_nil (h1 _ (ev_ret ?_)); clear h1
    exact retL [] (res' := [.cell 4 34, .tmp 5, .tmp 6]) mr (.cell nT mZ ma mc mP (.tmp nT mL (.tmp nT mL .nil))) rfl mr (by decide) trivial
  · rw [hed] at hce
    refine ev_seq fun K1 h1 => ev_rf mB ?_
    repeat refine dr_act wN mb ma mc mT mR ?_
    refine dr_callF wN mr mb mx mr hce (Nat.le_of_ble_eq_true rfl) mv mT mN ?_
    repeat refine dr_act wN mb ma mc mT mR ?_
    refine dr_nil (h1 _ (ev_ret ?_)); clear h1
    exact retL [80] (res' := [.cell 4 34, .tmp 5, .tmp 6]) mr (.cell nT mZ ma mc mP (.tmp nT mL (.tmp nT mL .nil))) rfl mr (by decide) ⟨⟨mr, okRM⟩, trivial⟩
end Go.Ev
namespace Go.Ev
open Go Go.RowKit Go.Proofs

/-- The bytes that mark a row. -/
def mk8 (k : Int) (n : Nat) : List Int := (List.range n).map fun i => IntKind.u8.wrap (k + (i : Nat))

theorem mk8_set {k : Int} {xs : List Int} {i : Nat} (h : i < xs.length) : (mk8 k i ++ xs.drop i).set i (IntKind.u8.wrap (k + (i : Nat))) = mk8 k (i + 1) ++ xs.drop (i + 1) := by
  have hl : (mk8 k i).length = i := by simp [mk8]
  rw [List.set_append, if_neg (by omega), hl, Nat.sub_self]
  have e : xs.drop i = xs[i] :: xs.drop (i + 1) := List.drop_eq_getElem_cons h
  rw [e, List.set_cons_zero, mk8, mk8, List.range_succ, List.map_append]
  simp

theorem c21 (ty : TypeId) (xs : List Int) (k : Int) (hk : 0 ≤ k) (hk2 : k + xs.length ≤ 16000000) (hl : xs.length ≤ 1048576) :
    GoodR Try.prog 21 [.ref (0, none) 0 xs.length, vi k] [⟨ty, 1, xs.map cB⟩] (vi (k + xs.length)) [some ⟨ty, 1, (mk8 k xs.length).map cB⟩] := by
  refine goodR_of (E := En 20 1) (fn := Try.f21) (by kernel_rfl) (by kernel_rfl) rfl rfl (by simp only [List.length_cons, List.length_nil]; decide) ⟨rfl, Nat.le_refl 1⟩ rfl ⟨okMap (fun _ => rfl) _, trivial⟩ (fun C0 => ?_)
  simp only [argT, rsT, Nat.reduceAdd, List.length_cons, List.length_nil]
  refine ev_seq fun K1 h1 => ev_rf mB ?_
  repeat refine dr_act wN mb ma mc mT mR ?_
  refine dr_nil (h1 _ ?_); clear h1 K1
  refine ev_seq fun K1 h1 => ?_
  refine ev_seq fun K2 h2 => ev_rf mB ?_
  repeat refine dr_act wN mb ma mc mT mR ?_
  refine dr_nil (h2 _ ?_); clear h2 K2
  refine ev_block (ev_loop (α := {i : Nat // i ≤ xs.length}) (fun i => ⟨[(0, .ref (0, none) 0 xs.length), (1, vi (k + (i.1 : Nat))), (5, vi i.1)], [(0, ⟨ty, 1, (mk8 k i.1 ++ xs.drop i.1).map cB⟩)], 17⟩) (fun i => xs.length - i.1) ⟨0, Nat.zero_le _⟩ (weak_ren [] ?_ (chkRm rfl (by decide) (by simp [mk8]) (fun _ => rfl) (fun _ => rfl) mK) mD mQ) (fun ⟨i, hi⟩ => ?_))
  · simp only [Int.natCast_zero, Int.add_zero]; exact mK
  have hmm : (mk8 k i ++ xs.drop i).length = xs.length := by simp [mk8]; omega
  refine ev_seq fun K2 h2 => ev_seq fun K3 h3 => ev_rf mB ?_
  repeat refine dr_act wN mb ma mc mT mR ?_
  refine dr_nil (h3 _ ?_); clear h3
  refine ev_cond _ ml (fun h => ev_skip (h2 _ ?_)) (fun h => ev_exit ?_)
  · clear h1 h2
    have hlt : i < xs.length := by have := of_decide_eq_true h; omega
    refine ev_seq fun K2 h2 => ev_block (ev_seq fun K3 h3 => ev_rf mB ?_)
    repeat refine dr_act wN mb ma mc mT mR ?_
    refine dr_ixp wN mr mb ml ml mr mS (by omega) (Nat.zero_add _) mT ?_
    refine dr_stp (zs := (mk8 k (i + 1) ++ xs.drop (i + 1)).map cB) wN mr mb ml mr mr ml ⟨rfl, rfl⟩ mZ ⟨by rw [List.length_map, Int.toNat_natCast, hmm]; exact hlt, Nat.le_refl 1⟩ ?_ mr mT mR ?_
    · rw [Int.toNat_natCast, ← mk8_set hlt]
      exact set_put 0 (by rw [hmm]; exact hlt) rfl
    refine dr_nil (h3 _ (ev_rf mB ?_)); clear h3
    repeat refine dr_act wN mb ma mc mT mR ?_
    refine dr_nil (h2 _ (ev_rf mB ?_)); clear h2
    repeat refine dr_act wN mb ma mc mT mR ?_
    refine dr_nil ⟨⟨i + 1, by omega⟩, by simp only []; omega, ?_⟩
    rw [w64p (n := xs.length) (by omega) (by omega)]
    have hw : IntKind.i64.wrap (k + (i : Nat) + 1) = k + ((i + 1 : Nat) : Int) := by rw [wrap_of (by omega) (by omega)]; omega
    rw [hw]
    exact weak_ren [] mK (chkRm rfl (by decide) rfl (fun _ => rfl) (fun _ => rfl) mK) mD mQ
  · simp only [seqK, loopK, blkK, ↓reduceIte]
    refine h1 _ ?_; clear h1 h2
    have hge := of_decide_eq_false h
    obtain rfl : i = xs.length := by omega
    refine ev_seq fun K1 h1 => ev_rf mB ?_
    repeat refine dr_act wN mb ma mc mT mR ?_
    refine dr_nil (h1 _ (ev_ret ?_)); clear h1
    refine retRT [] [4] (hR := ⟨⟨_, rfl, rfl, rfl, ?_⟩, trivial⟩)
    rw [← rnMap (fun _ => rfl)]
    simp
end Go.Ev
namespace Go.Ev
open Go Go.RowKit Go.Proofs

theorem take_mk8 {k : Int} {xs : List Int} {i : Nat} (h : xs.take i = mk8 k i) (hi : i < xs.length) (e : xs.getD i 0 = IntKind.u8.wrap (k + (i : Nat))) : xs.take (i + 1) = mk8 k (i + 1) := by
  rw [List.take_succ_eq_append_getElem hi, h, mk8, mk8, List.range_succ, List.map_append]
  rw [List.getD_eq_getElem?_getD, List.getElem?_eq_getElem hi] at e
  simp only [Option.getD_some] at e
  simp [e]

theorem mk8_get {k : Int} {n i : Nat} (h : i < n) : (mk8 k n).getD i 0 = IntKind.u8.wrap (k + (i : Nat)) := by
  simp [mk8, List.getD_eq_getElem?_getD, h]

theorem mk8_len {k : Int} {n : Nat} : (mk8 k n).length = n := by simp [mk8]

theorem wk {k : Int} {i n : Nat} (h : i < n) (hk : 0 ≤ k) (hn : k + n ≤ 4000000) : IntKind.i64.wrap (k + (i : Nat) + 1) = k + ((i + 1 : Nat) : Int) := by
  rw [wrap_of (by omega) (by omega)]; omega

theorem c163 (xs : List Int) (k : Int) (hk : 0 ≤ k) (hk2 : k + xs.length ≤ 4000000) : Good Try.prog 163 [eB xs, vi k] (vi (if xs = mk8 k xs.length then k + xs.length else -1)) [] := by
  refine good_of (E := En 22) (fn := Try.f163) (by kernel_rfl) (by kernel_rfl) rfl rfl (by simp only [List.length_cons, List.length_nil]; decide) (fun C0 => ?_)
  simp only [argT, Nat.reduceAdd, eB]
  refine ev_seq fun K1 h1 => ev_rf mB ?_
  repeat refine dr_act wN mb ma mc mT mR ?_
  refine dr_nil (h1 _ ?_); clear h1 K1
  refine ev_seq fun K1 h1 => ?_
  refine ev_seq fun K2 h2 => ev_rf mB ?_
  repeat refine dr_act wN mb ma mc mT mR ?_
  refine dr_nil (h2 _ ?_); clear h2 K2
  refine ev_block (ev_loop (α := {i : Nat // i ≤ xs.length ∧ xs.take i = mk8 k i}) (fun i => ⟨[(0, .list 1 (xs.map cB)), (1, vi (k + (i.1 : Nat))), (5, vi i.1)], [], 16⟩) (fun i => xs.length - i.1) ⟨0, Nat.zero_le _, rfl⟩ (weak_ren [] ?_ mK mD mQ) (fun ⟨i, hi, ht⟩ => ?_))
  · simp only [Int.natCast_zero, Int.add_zero]; exact mK
  refine ev_seq fun K2 h2 => ev_seq fun K3 h3 => ev_rf mB ?_
  repeat refine dr_act wN mb ma mc mT mR ?_
  refine dr_nil (h3 _ ?_); clear h3
  refine ev_cond _ ml (fun h => ev_skip (h2 _ ?_)) (fun h => ev_exit ?_)
  · clear h1 h2
    have hlt : i < xs.length := by have := of_decide_eq_true h; omega
    refine ev_seq fun K2 h2 => ev_block (ev_seq fun K3 h3 => ev_seq fun K4 h4 => ev_rf mB ?_)
    repeat refine dr_act wN mb ma mc mT mR ?_
    refine dr_ix (0 : Int) wN mr mb ml ml mS (by omega) mT ?_
    repeat refine dr_act wN mb ma mc mT mR ?_
    refine dr_nil (h4 _ ?_); clear h4
    refine ev_cond _ ml (fun h => ?_) (fun h => ev_skip (h3 _ ?_))
    · refine ev_seq fun K4 h4 => ev_rf mB ?_
      repeat refine dr_act wN mb ma mc mT mR ?_
      refine dr_nil (h4 _ (ev_ret ?_)); clear h4 h3 h2
      have e : ¬ xs = mk8 k xs.length := fun e => by
        have h' : ¬ xs.getD i 0 = IntKind.u8.wrap (k + (i : Nat)) := by simpa using h
        rw [e, mk8_get hlt] at h'
        exact h' rfl
      exact retT [4] (hv := by rw [if_neg e]; rfl)
    · clear h3
      have e : xs.getD i 0 = IntKind.u8.wrap (k + (i : Nat)) := by simpa using h
      refine ev_rf mB ?_
      repeat refine dr_act wN mb ma mc mT mR ?_
      refine dr_nil (h2 _ (ev_rf mB ?_)); clear h2
      repeat refine dr_act wN mb ma mc mT mR ?_
      refine dr_nil ⟨⟨i + 1, hlt, take_mk8 ht hlt e⟩, by simp only []; omega, ?_⟩
      rw [w64p (n := xs.length) hlt (by omega), wk hlt hk hk2]
      exact weak_ren [] mK mK mD mQ
  · simp only [seqK, loopK, blkK, ↓reduceIte]
    refine h1 _ ?_; clear h1 h2
    have hge := of_decide_eq_false h
    obtain rfl : i = xs.length := by omega
    have e : xs = mk8 k xs.length := by rw [← ht, List.take_length]
    refine ev_seq fun K1 h1 => ev_rf mB ?_
    repeat refine dr_act wN mb ma mc mT mR ?_
    refine dr_nil (h1 _ (ev_ret ?_)); clear h1
    exact retT [4] (hv := by rw [if_pos e]; rfl)

/-- All rows marked, one number behind the other. -/
def mkM (k : Int) : List (List Int) → List (List Int)
  | [] => []
  | r :: rs => mk8 k r.length :: mkM (k + r.length) rs
/-- How many bytes. -/
def tot : List (List Int) → Nat
  | [] => 0
  | r :: rs => r.length + tot rs

theorem mkM_length (k : Int) : ∀ m : List (List Int), (mkM k m).length = m.length
  | [] => rfl
  | r :: rs => by simp only [mkM, List.length_cons, mkM_length _ rs]

theorem tot_drop {m : List (List Int)} {i : Nat} (h : i < m.length) : tot (m.drop i) = (m.getD i []).length + tot (m.drop (i + 1)) := by
  have hd : m.drop i = m.getD i [] :: m.drop (i + 1) := by
    rw [List.drop_eq_getElem_cons h, List.getD_eq_getElem?_getD, List.getElem?_eq_getElem h]; rfl
  rw [hd]; rfl

theorem drop_cons {m : List (List Int)} {i : Nat} (h : i < m.length) : m.drop i = m.getD i [] :: m.drop (i + 1) := by
  rw [List.drop_eq_getElem_cons h, List.getD_eq_getElem?_getD, List.getElem?_eq_getElem h]; rfl

def hdM (m : List (List Int)) (k : Int) : Int := if m = mkM k m then k + tot m else -1
theorem hdM_cons (r : List Int) (rs : List (List Int)) (k : Int) (h : 0 ≤ k) : hdM (r :: rs) k = if r = mk8 k r.length then hdM rs (k + r.length) else -1 := by
  unfold hdM
  simp only [mkM, List.cons.injEq, tot]
  by_cases e : r = mk8 k r.length
  · rw [if_pos e]
    by_cases e2 : rs = mkM (k + r.length) rs
    · rw [if_pos e2, if_pos ⟨e, e2⟩]; omega
    · rw [if_neg e2, if_neg fun h => e2 h.2]
  · rw [if_neg e, if_neg fun h => e h.1]

theorem c131 (m : List (List Int)) (k : Int) (hk : 0 ≤ k) (hk2 : k + tot m ≤ 4000000) (hl : m.length ≤ 1048576) : Good Try.prog 131 [eM m, vi k] (vi (hdM m k)) [] := by
  refine good_of (E := En 21) (fn := Try.f131) (by kernel_rfl) (by kernel_rfl) rfl rfl (by simp only [List.length_cons, List.length_nil]; decide) (fun C0 => ?_)
  simp only [argT, Nat.reduceAdd, eM]
  refine ev_seq fun K1 h1 => ev_rf mB ?_
  repeat refine dr_act wN mb ma mc mT mR ?_
  refine dr_nil (h1 _ ?_); clear h1 K1
  refine ev_seq fun K1 h1 => ?_
  refine ev_seq fun K2 h2 => ev_rf mB ?_
  repeat refine dr_act wN mb ma mc mT mR ?_
  refine dr_nil (h2 _ ?_); clear h2 K2
  refine ev_block (ev_loop (α := {p : Nat × Int // p.1 ≤ m.length ∧ 0 ≤ p.2 ∧ p.2 + tot (m.drop p.1) ≤ 4000000 ∧ hdM (m.drop p.1) p.2 = hdM m k}) (fun p => ⟨[(0, .list 1 (m.map cM)), (1, vi p.1.2), (5, vi p.1.1)], [], 16⟩) (fun p => m.length - p.1.1) ⟨(0, k), Nat.zero_le _, hk, hk2, rfl⟩ (weak_ren [] mK mK mD mQ) (fun ⟨(i, x), hi, hx0, hx1, hx⟩ => ?_))
  refine ev_seq fun K2 h2 => ev_seq fun K3 h3 => ev_rf mB ?_
  repeat refine dr_act wN mb ma mc mT mR ?_
  refine dr_nil (h3 _ ?_); clear h3
  refine ev_cond _ ml (fun h => ev_skip (h2 _ ?_)) (fun h => ev_exit ?_)
  · clear h1 h2
    have hlt : i < m.length := by have := of_decide_eq_true h; simp only at hi; omega
    have hd := drop_cons hlt
    simp only [hd, tot] at hx1
    simp only [hd] at hx
    rw [hdM_cons _ _ _ hx0] at hx
    refine ev_seq fun K2 h2 => ev_block (ev_seq fun K3 h3 => ev_rf mB ?_)
    repeat refine dr_act wN mb ma mc mT mR ?_
    refine dr_ix ([] : List Int) wN mr mb ml ml mS (by omega) mT ?_
    repeat refine dr_act wN mb ma mc mT mR ?_
    refine dr_callF wN mr mb mx mr (c163 (m.getD i []) x hx0 (by omega)) (Nat.le_of_ble_eq_true rfl) mv mT mN ?_
    repeat refine dr_act wN mb ma mc mT mR ?_
    refine dr_nil (h3 _ ?_); clear h3
    refine ev_seq fun K3 h3 => ev_rf mB ?_
    repeat refine dr_act wN mb ma mc mT mR ?_
    refine dr_nil (h3 _ ?_); clear h3
    refine ev_cond _ ml (fun h => ?_) (fun h => ev_skip ?_)
    · have hneg := of_decide_eq_true h
      refine ev_seq fun K3 h3 => ev_rf mB ?_
      repeat refine dr_act wN mb ma mc mT mR ?_
      refine dr_nil (h3 _ (ev_ret ?_)); clear h3 h2
      have e : ¬ m.getD i [] = mk8 x (m.getD i []).length := fun e => by rw [if_pos e] at hneg; omega
      exact retT [4] (hv := by rw [← hx, if_neg e]; rfl)
    · have hpos := of_decide_eq_false h
      have e : m.getD i [] = mk8 x (m.getD i []).length := Classical.byContradiction fun e => by rw [if_neg e] at hpos; exact hpos (by decide)
      rw [if_pos e] at hx ⊢
      refine h2 _ (ev_rf mB ?_); clear h2
      repeat refine dr_act wN mb ma mc mT mR ?_
      refine dr_nil ⟨⟨(i + 1, x + ((m.getD i []).length : Nat)), hlt, by show 0 ≤ x + _; omega, by show x + ((m.getD i []).length : Nat) + (tot (m.drop (i + 1)) : Nat) ≤ 4000000; omega, hx⟩, by simp only []; omega, ?_⟩
      rw [w64p (n := m.length) hlt (by omega)]
      exact weak_ren [] mK mK mD mQ
  · simp only [seqK, loopK, blkK, ↓reduceIte]
    refine h1 _ ?_; clear h1 h2
    have hge := of_decide_eq_false h
    have hi' : i = m.length := by simp only at hi; omega
    have hz : hdM [] x = x := by simp only [hdM, mkM, tot, if_true]; omega
    simp only [hi', List.drop_length, hz] at hx
    refine ev_seq fun K1 h1 => ev_rf mB ?_
    repeat refine dr_act wN mb ma mc mT mR ?_
    refine dr_nil (h1 _ (ev_ret ?_)); clear h1
    exact retT [4] (hv := by rw [← hx]; rfl)
end Go.Ev
namespace Go.Ev
open Go Go.RowKit Go.Proofs

theorem bytesOf_eq {m : List (List Int)} {w : Win} (h : Fits m w) : bytesOf m w = ((m.getD w.a.toNat []).drop w.s.toNat).take w.n.toNat := by
  have h1 := h.n1
  have h2 := h.s0
  have h3 := h.n0
  apply List.ext_getElem?
  intro k
  rw [List.getElem?_take, List.getElem?_drop]
  simp only [bytesOf, List.getElem?_map, List.getElem?_range']
  by_cases hk : k < w.n.toNat
  · rw [if_pos hk, List.getElem?_range hk]
    have e : (w.s + (k : Int)).toNat = w.s.toNat + k := by omega
    simp only [Option.map_some, e]
    rw [List.getD_eq_getElem?_getD, List.getElem?_eq_getElem (by omega)]
    rfl
  · rw [if_neg hk, List.getElem?_eq_none (by simpa using hk)]
    rfl

theorem slB_eq {m : List (List Int)} {w : Win} (h : Fits m w) {i j : Int} (h0 : 0 ≤ i) (hj : j ≤ w.n) : slB (bytesOf m w) i j = ((m.getD w.a.toNat []).drop (w.s.toNat + i.toNat)).take (j.toNat - i.toNat) := by
  rw [slB, bytesOf_eq h, List.drop_take, List.take_take, List.drop_drop]
  congr 1
  omega

theorem copyL_ovr {r xs : List Int} {s n : Nat} (hn : n = xs.length) : copyL (r.map cB) (xs.map cB) s n = (ovr r s xs).map cB := by
  subst hn
  simp only [copyL, ovr, List.map_append, List.map_take, List.map_drop]
  rw [show List.take xs.length (xs.map cB) = xs.map cB from List.take_of_length_le (by rw [List.length_map]; exact Nat.le_refl _)]

theorem cut_sub {r : List Int} {s n : Nat} : cut (r.map cB) s n = ((r.drop s).take n).map cB := by
  rw [cut_eq, List.map_take, List.map_drop]

theorem wrM_nil {m : List (List Int)} {a s : Nat} : wrM m a s [] = m := by
  rw [wrM, ovr_nil]
  apply List.ext_getElem?
  intro k
  rw [List.getElem?_set]
  split
  · rename_i e; subst e
    rw [List.getD_eq_getElem?_getD]
    split
    · rename_i h
      rw [List.getElem?_eq_getElem h]; rfl
    · rename_i h
      rw [List.getElem?_eq_none (by omega)]
  · rfl

theorem rnR_rM {ρ : Nat → Nat} {m : List (List Int)} : rnR ρ (rM m) = rM m := by
  show Root.mk 29 1 ((m.map cR).map (·.map (rnC ρ))) = _
  rw [← rnMap (fun _ => rfl)]

/-- What a call by reference that hands over one memory leaves. -/
theorem wr1 {R : List (Nat × Root)} {n b : Nat} {m : List (List Int)} : applyW R (wrR [n] [] b [some (rM m)]) = (n, rM m) :: dropR R n := by
  simp only [wrR, newR, upN, List.map_nil, List.nil_append, Option.map_some, rnR_rM]
  rfl

theorem hand1 {R : Rs} {n : Nat} {m : List (List Int)} (h : R n = some (rM m)) : HandL R [n] 1 [n] [rM m] :=
  ⟨⟨_, h, rfl, rfl, rnMap (fun _ => rfl) m, okMM⟩, trivial⟩

abbrev bG (n : Nat) (g : Gp) : Root := ⟨34, 7, [cG (.ref (n, none) 0 g.m.length) g]⟩

theorem nz {ns : List Nat} : ∀ z, z ∈ ([] : List Nat) → z ∉ ns := fun z hz => by simp at hz

theorem mvG_ge {g : Gp} {t : Int} (h : g.p ≤ t) : mvG g t = ⟨wrM g.m g.w.a.toNat (g.w.s + g.p).toNat (slB (bytesOf g.m g.w) g.q (t + (g.q - g.p))), g.w, t, t + (g.q - g.p)⟩ ∧ mvC g t = t - g.p := by
  unfold mvG mvC
  by_cases e : t ≤ g.p
  · obtain rfl : t = g.p := by omega
    rw [if_pos e, if_pos e]
    have e1 : slB (bytesOf g.m g.w) g.p g.p = [] := by simp [slB]
    have e2 : slB (bytesOf g.m g.w) g.q (g.p + (g.q - g.p)) = [] := by
      rw [show g.p + (g.q - g.p) = g.q by omega]; simp [slB]
    rw [e1, e2, wrM_nil, wrM_nil]
    exact ⟨rfl, rfl⟩
  · rw [if_neg e, if_neg e]
    exact ⟨rfl, rfl⟩

theorem getRow {R : Rs} {n a : Nat} {m : List (List Int)} (h : R n = some (rM m)) (ha : a < m.length) : getP R (n, some (a, 0)) = some (1, (m.getD a []).map cB) := getP_map (d := []) (g := cR) (ys := m) h ha rfl

theorem elsRow {R : Rs} {x : V} {n a off len : Nat} {m : List (List Int)} {ys : List Int} (hx : x = .ref (n, some (a, 0)) off len) (h : R n = some (rM m)) (ha : a < m.length) (he : ((m.getD a []).drop off).take len = ys) : elsOf R x = some (1, ys.map cB) := by
  subst hx
  simp only [elsOf, getRow h ha, Option.map_some, cut_sub, he]

theorem okBn {xs : List Int} : (xs.map cB).all (·.all notRow) = true := by
  refine List.all_eq_true.2 fun x hx => ?_
  obtain ⟨a, _, rfl⟩ := List.mem_map.1 hx
  rfl

section rules
variable {E : Env} {C0 : Cx} {T : List (Nat × V)} {R : List (Nat × Root)} {ops : Array Oper} {base i bi : Nat} {o : Oper} {l : List Oper} {T1 : List (Nat × V)} {R1 : List (Nat × Root)} {v : V}
variable {Kd : List (Nat × V) → List (Nat × Root) → List Lg → Prop}

/-- Bytes copied into a row of an own memory. -/
theorem dr_cpr {d s : Operand} {t u : TypeId} {n a off len : Nat} {m : List (List Int)} (src : List Int) (hw : WantOK E.nt ops o (lookT T) true) (ho : o.op = .call ⟨.builtin .copy, #[d, s], #[t, u]⟩) (hb : base + 8 * i = bi) (hd : lookO E.nt (lookT T) d = .ref (n, some (a, 0)) off len) (hr : lookR R n = some (rM m)) (ha : a < m.length)
    (hs : elsOf (lookR R) (lookO E.nt (lookT T) s) = some (1, src.map cB)) (hz : slT E.tab t ∧ (E.tab (E.tab t).elem).sz = 1) (hl : src.length ≤ len) (hT : putT T o.dst (vi (src.length : Nat)) = T1) (hR : (n, rM (wrM m a off src)) :: dropR R n = R1)
    (hk : ∀ z, Dr E ops base (i + 1) l (fun T' R' lg => Kd T' R' ((opNames (lookO E.nt (lookT T)) o.op, [(n, z)]) :: lg)) T1 R1) : Dr E ops base i (o :: l) Kd T R := by
  have hm : min len (src.map cB).length = src.length := by rw [List.length_map]; omega
  refine dr_cpp (ts := #[]) (zs := (ovr (m.getD a []) off src).map cB) hw ho hb hd (getRow hr ha) hr hs hz okBn (by rw [hm]; exact copyL_ovr rfl) (by rw [hm]; exact hT) ?_ (hk _)
  rw [← hR, setP_row ha]
  rfl

/-- A part of a row of an own memory. -/
theorem dr_slr {t : TypeId} {x : Operand} {lo hi : Option Operand} {n k off len : Nat} {m : List (List Int)} (a c : Int) (hw : WantOK E.nt ops o (lookT T) true) (ho : o.op = .slice t x lo hi none) (hb : base + 8 * i = bi) (hx : lookO E.nt (lookT T) x = .ref (n, some (k, 0)) off len) (hr : lookR R n = some (rM m)) (ha : k < m.length)
    (hlo : bndV (lo.map (lookO E.nt (lookT T))) 0 = some a) (hhi : bndV (hi.map (lookO E.nt (lookT T))) len = some c) (hs : slT E.tab t ∧ 1 = (E.tab (E.tab t).elem).sz) (h01 : 0 ≤ a ∧ a ≤ c ∧ c ≤ len) (hT : putT T o.dst (.ref (n, some (k, 0)) (off + a.toNat) (c.toNat - a.toNat)) = T1)
    (hk : Dr E ops base (i + 1) l (fun T' R' lg => Kd T' R' ((opNames (lookO E.nt (lookT T)) o.op, []) :: lg)) T1 R) : Dr E ops base i (o :: l) Kd T R :=
  dr_slp hw ho hb hx (getRow hr ha) hlo hhi hs h01 rfl hT hk
end rules
end Go.Ev
namespace Go.Ev
open Go Go.RowKit Go.Proofs

section rules
variable {E : Env} {C0 : Cx} {T : List (Nat × V)} {R : List (Nat × Root)} {ops : Array Oper} {base i bi : Nat} {o : Oper} {l : List Oper} {T1 : List (Nat × V)} {R1 : List (Nat × Root)} {v : V}
variable {Kd : List (Nat × V) → List (Nat × Root) → List Lg → Prop}

/-- Bytes copied into own bytes. -/
theorem dr_cpb {d s : Operand} {t u : TypeId} {n off len ty : Nat} (ys src : List Int) (hw : WantOK E.nt ops o (lookT T) true) (ho : o.op = .call ⟨.builtin .copy, #[d, s], #[t, u]⟩) (hb : base + 8 * i = bi) (hd : lookO E.nt (lookT T) d = .ref (n, none) off len) (hr : lookR R n = some ⟨ty, 1, ys.map cB⟩)
    (hs : elsOf (lookR R) (lookO E.nt (lookT T) s) = some (1, src.map cB)) (hz : slT E.tab t ∧ (E.tab (E.tab t).elem).sz = 1) (hl : src.length ≤ len) (hT : putT T o.dst (vi (src.length : Nat)) = T1) (hR : (n, ⟨ty, 1, (ovr ys off src).map cB⟩) :: dropR R n = R1)
    (hk : ∀ z, Dr E ops base (i + 1) l (fun T' R' lg => Kd T' R' ((opNames (lookO E.nt (lookT T)) o.op, [(n, z)]) :: lg)) T1 R1) : Dr E ops base i (o :: l) Kd T R := by
  have hm : min len (src.map cB).length = src.length := by rw [List.length_map]; omega
  exact dr_cpp (ts := #[]) (p := (n, none)) (zs := (ovr ys off src).map cB) hw ho hb hd (act_of hr) hr hs hz okBn (by rw [hm]; exact copyL_ovr rfl) (by rw [hm]; exact hT) hR (hk _)

/-- A row is loaded from an own memory. -/
theorem dr_ldr {t : TypeId} {a : Operand} {n k : Nat} {m : List (List Int)} (hw : WantOK E.nt ops o (lookT T) true) (ho : o.op = .load t a) (hb : base + 8 * i = bi) (ha : lookO E.nt (lookT T) a = .ptr (n, none) k 0) (hr : lookR R n = some (rM m)) (hk0 : k < m.length) (hz : (E.tab t).sz = 1 ∧ (E.tab t).agg = false)
    (hT : putT T o.dst (.ref (n, some (k, 0)) 0 (m.getD k []).length) = T1)
    (hk : Dr E ops base (i + 1) l (fun T' R' lg => Kd T' R' ((opNames (lookO E.nt (lookT T)) o.op, []) :: lg)) T1 R) : Dr E ops base i (o :: l) Kd T R :=
  dr_ldp (g := cR) (ys := m) [] hw ho hb ha (act_of hr) hk0 (by rw [hz.1]; exact ⟨by decide, Nat.le_refl 1⟩) (by
    rw [hz.1, hz.2]
    show some (V.ref (n, some (k, 0)) 0 ((m.getD k []).map cB).length) = _
    rw [List.length_map]) hT hk
end rules

theorem ovr_pad {xs ys : List Int} {n : Nat} (h : xs.length + ys.length ≤ n) : ovr (ovr (List.replicate n 0) 0 xs) xs.length ys = padB (xs ++ ys) n := by
  simp only [ovr, List.take_zero, List.nil_append, Nat.zero_add, List.drop_replicate]
  rw [List.take_append_of_le_length (Nat.le_refl _), List.take_length, List.drop_append, List.drop_of_length_le (by omega), List.nil_append, List.drop_replicate, padB, List.length_append]
  congr 2
  omega

abbrev oWo : Option (List (List Int) × Win) → V
  | some (_, w) => .tup [eW w, vb true]
  | none => .tup [zW, vb false]
def memO (m : List (List Int)) : Option (List (List Int) × Win) → List (List Int)
  | some (m', _) => m'
  | none => m

theorem capI {c need : Int} : (if (if need > 2 * c then need else 2 * c) < 64 then (if need > 2 * c then need else 2 * c) else 64) = capN c need := by
  unfold capN
  split <;> split <;> split <;> (try split) <;> omega

theorem c189 (g : Gp) (w : Win) (xs : List Int) (hw : GW g.m w) (hx : xs.length ≤ 1048576) :
    GoodR Try.prog 189 [.ptr (0, none) 0 0, eW w, eB xs] [bG 1 g, rM g.m] (oWo (apM g.m w xs)) [some (bG 2 { g with m := memO g.m (apM g.m w xs) }), none, some (rM (memO g.m (apM g.m w xs)))] := by
  refine goodR_of (E := En 96 2) (fn := Try.f189) (by kernel_rfl) (by kernel_rfl) rfl rfl (by simp only [List.length_cons, List.length_nil]; decide) ⟨rfl, Nat.le_of_ble_eq_true rfl⟩ (by rcases apM g.m w xs with _ | ⟨m', w'⟩ <;> rfl) ⟨rfl, okMM, trivial⟩ (fun C0 => ?_)
  have hc := hw.c64
  have hn0 := hw.n0
  have hn1 := hw.n1
  have hs0 := hw.s0
  have hc1 := hw.c1
  have ha0 := hw.a0
  have ha1 := hw.a1
  have hrow := hw.row
  have hml := hw.g.l
  have w1 : IntKind.i64.wrap (w.s + w.n) = w.s + w.n := wrap_of (by omega) (by omega)
  have w2 : IntKind.i64.wrap (w.n + (xs.length : Nat)) = w.n + (xs.length : Nat) := wrap_of (by omega) (by omega)
  have w4 : IntKind.i64.wrap (2 * w.c) = 2 * w.c := wrap_of (by omega) (by omega)
  simp only [argT, rsT, Nat.reduceAdd, List.length_cons, List.length_nil, eB]
  refine ev_seq fun K1 h1 => ev_rf mB ?_
  repeat refine dr_act wN mb ma mc mT mR ?_
  refine dr_nil (h1 _ ?_); clear h1 K1
  refine ev_seq fun K1 h1 => ev_reg mB ?_
  repeat refine dr_act wN mb ma mc mT mR ?_
  refine dr_nil ⟨fun _ => by kernel_rfl, h1 _ ?_⟩; clear h1
  rw [w1, w2]
  refine ev_seq fun K1 h1 => ?_
  refine ev_seq fun K2 h2 => ev_rf mB ?_
  repeat refine dr_act wN mb ma mc mT mR ?_
  refine dr_nil (h2 _ ?_); clear h2
  refine ev_cond _ ml (fun h => ?_) (fun h => ev_skip (h1 _ ?_))
  · have hle := of_decide_eq_true h
    clear h1
    have e : apM g.m w xs = some (wrM g.m w.a.toNat (w.s + w.n).toNat xs, ⟨w.a, w.s, w.n + xs.length, w.c⟩) := by rw [apM, if_pos (by omega)]
    rw [e]
    refine ev_seq fun K1 h1 => ev_reg mB ?_
    repeat refine dr_act wN mb ma mc mT mR ?_
    refine dr_ixp wN mr mb ml ml mr mS ⟨ha0, ha1⟩ (Nat.zero_add _) mT ?_
    refine dr_ldr wN mr mb ml mr (by omega) mZ mT ?_
    repeat refine dr_act wN mb ma mc mT mR ?_
    refine dr_slr (w.s + w.n) ((g.m.getD w.a.toNat []).length : Nat) wN mr mb ml mr (by omega) mr mr mS (by omega) mT ?_
    repeat refine dr_act wN mb ma mc mT mR ?_
    refine dr_cpr xs wN mr mb ml mr (by omega) (by simp only [En_nt, lookO, lookT, Nat.reduceEqDiff, Nat.reduceLT, ↓reduceIte]; rfl) mS (by simp only [Int.toNat_natCast]; omega) mT mr fun z => ?_
    refine dr_nil ⟨fun _ => by kernel_rfl, h1 _ ?_⟩; clear h1
    rw [Nat.zero_add]
    refine ev_weak (σ' := ⟨[(4, .ptr (2, none) 0 0), (6, .ptr (10, none) 0 0), (9, vi (w.n + (xs.length : Nat)))], [(0, ⟨34, 7, [cG (.ref (400, none) 0 g.m.length) g]⟩), (2, ⟨32, 4, [cW w]⟩), (10, ⟨32, 4, [[vi 0, vi 0, vi 0, vi 0]]⟩), (400, rM (wrM g.m w.a.toNat (w.s + w.n).toNat xs))], 408⟩) (weak_ren [(400, 1)] mK (chkR_cons mK (chkR_cons mK (chkR_cons mK (chkRm rfl (by decide) rfl (fun _ => rfl) (fun a => by simp [okC]) trivial)))) mD mQ) ?_
    refine ev_seq fun K1 h1 => ev_rf mB ?_
    repeat refine dr_act wN mb ma mc mT mR ?_
    refine dr_nil (h1 _ (ev_ret ?_)); clear h1
    refine retLR [400] (res' := [.cell 6 32, .tmp 7]) mr (.cell nT mZ ma mc mP (.tmp nT mL .nil)) rfl (by decide) rfl ⟨⟨_, rfl, rfl, rfl, ?_⟩, ⟨_, rfl, rfl, rfl, rnMap (g := cR) (fun _ => rfl) _⟩, trivial⟩
    simp only [bG, cG, memO, wrM_length]; rfl
  have hgt := of_decide_eq_false h
  clear h1 K1 h
  have none' : apM g.m w xs = none ∨ ¬ (w.n + (xs.length : Nat) > 64) ∧ ¬ (g.m.length : Int) = 16 := by
    by_cases c : 64 - w.n < xs.length ∨ g.m.length = 16
    · left; rw [apM, if_neg (by omega), if_pos c]
    · right; constructor <;> omega
  refine ev_seq fun K1 h1 => ?_
  refine ev_seq fun K2 h2 => ev_rf mB ?_
  repeat refine dr_act wN mb ma mc mT mR ?_
  cases hd : decide (w.n + (xs.length : Nat) > 64)
  rotate_left
  · iterate 6 refine dr_skip wG mT ?_
    repeat refine dr_act wN mb ma mc mT mR ?_
    refine dr_nil (h2 _ ?_); clear h2
    have e : apM g.m w xs = none := none'.resolve_right fun k => k.1 (of_decide_eq_true hd)
    refine ev_cond true mlq (fun h => ?_) (fun h => by cases h)
    rw [e]
    refine ev_weak (σ' := ⟨[(6, .ptr (10, none) 0 0)], [(0, bG 400 g), (10, ⟨32, 4, [[vi 0, vi 0, vi 0, vi 0]]⟩), (400, rM g.m)], 408⟩) (weak_ren [(400, 1)] mK (chkR_cons mK (chkR_cons mK (chkRm rfl (by decide) rfl (fun _ => rfl) (fun a => by simp [okC]) trivial))) mD mQ) ?_
    refine ev_seq fun K2 h2 => ev_rf mB ?_
    repeat refine dr_act wN mb ma mc mT mR ?_
    refine dr_nil (h2 _ (ev_ret ?_)); clear h2 h1
    exact retLR [400] (res' := [.cell 6 32, .tmp 7]) mr (.cell nT mZ ma mc mP (.tmp nT mL .nil)) rfl (by decide) rfl ⟨⟨_, rfl, rfl, rfl, rfl⟩, ⟨_, rfl, rfl, rfl, rnMap (g := cR) (fun _ => rfl) _⟩, trivial⟩
  repeat refine dr_act wG mb ma mc mT mR ?_
  repeat refine dr_act wN mb ma mc mT mR ?_
  refine dr_nil (h2 _ ?_); clear h2
  refine ev_cond _ ml (fun h => ?_) (fun h => ev_skip (h1 _ ?_))
  · have hm := of_decide_eq_true h
    have e : apM g.m w xs = none := none'.resolve_right fun k => k.2 hm
    rw [e]
    refine ev_weak (σ' := ⟨[(6, .ptr (10, none) 0 0)], [(0, bG 400 g), (10, ⟨32, 4, [[vi 0, vi 0, vi 0, vi 0]]⟩), (400, rM g.m)], 408⟩) (weak_ren [(400, 1)] mK (chkR_cons mK (chkR_cons mK (chkRm rfl (by decide) rfl (fun _ => rfl) (fun a => by simp [okC]) trivial))) mD mQ) ?_
    refine ev_seq fun K2 h2 => ev_rf mB ?_
    repeat refine dr_act wN mb ma mc mT mR ?_
    refine dr_nil (h2 _ (ev_ret ?_)); clear h2 h1
    exact retLR [400] (res' := [.cell 6 32, .tmp 7]) mr (.cell nT mZ ma mc mP (.tmp nT mL .nil)) rfl (by decide) rfl ⟨⟨_, rfl, rfl, rfl, rfl⟩, ⟨_, rfl, rfl, rfl, rnMap (g := cR) (fun _ => rfl) _⟩, trivial⟩
  have hm : ¬ (g.m.length : Int) = 16 := of_decide_eq_false h
  have hle := of_decide_eq_false hd
  clear h1 K1 h hd none'
  have e : apM g.m w xs = some (g.m ++ [padB (bytesOf g.m w ++ xs) (capN w.c (w.n + xs.length)).toNat], ⟨g.m.length, 0, w.n + xs.length, capN w.c (w.n + xs.length)⟩) := by rw [apM, if_neg (by omega), if_neg (by omega)]
  rw [e]
  have hcap := capN_le (c := w.c) (need := w.n + (xs.length : Nat)) (by omega)
  have hbl := bytesOf_length g.m w
  refine ev_seq fun K1 h1 => ev_rf mB ?_
  repeat refine dr_act wN mb ma mc mT mR ?_
  rw [w4]
  repeat refine dr_act wN mb ma mc mT mR ?_
  simp only [if_true, Bool.false_eq_true, if_false, capI]
  generalize capN w.c (w.n + (xs.length : Nat)) = cap at *
  have hpad : ovr (ovr (List.replicate cap.toNat 0) 0 (bytesOf g.m w)) w.n.toNat xs = padB (bytesOf g.m w ++ xs) cap.toNat := by
    rw [← hbl]; exact ovr_pad (by omega)
  have hpl : (padB (bytesOf g.m w ++ xs) cap.toNat).length = cap.toNat := padB_length (by rw [List.length_append]; omega)
  refine dr_act wN mb ma (by omega) mT mR ?_
  repeat refine dr_act wN mb ma mc mT mR ?_
  refine dr_nil (h1 _ ?_); clear h1
  refine ev_seq fun K1 h1 => ev_reg mB ?_
  repeat refine dr_act wN mb ma mc mT mR ?_
  refine dr_callR [1] [] wN mr mb mx (c107 g.m w hw.fits (wrap_of (by omega) (by omega))) (.ren rfl rfl (.ren rfl rfl .nil)) (hand1 mr) ⟨⟨by decide, nz⟩, Nat.le_of_ble_eq_true rfl⟩ (v := .ref (1, some (w.a.toNat, 0)) w.s.toNat w.n.toNat) rfl mT (wr1.trans mr) ?_
  refine dr_cpb (List.replicate cap.toNat 0) (bytesOf g.m w) wN mr mb ml (by rw [← rep0]; rfl) (elsRow ml mr (by omega) (bytesOf_eq hw.fits).symm) mS (by omega) mT mr fun z => ?_
  refine dr_nil ⟨fun _ => by kernel_rfl, h1 _ ?_⟩; clear h1
  refine ev_seq fun K1 h1 => ev_rf mB ?_
  repeat refine dr_act wN mb ma mc mT mR ?_
  refine dr_slp (a := w.n) (c := (cap.toNat : Nat)) (v := .ref (282, none) w.n.toNat (cap.toNat - w.n.toNat)) wN mr mb ml mr mr mr mS (by omega) (by simp only [Nat.zero_add, Int.toNat_natCast]) mT ?_
  repeat refine dr_act wN mb ma mc mT mR ?_
  refine dr_cpb (ovr (List.replicate cap.toNat 0) 0 (bytesOf g.m w)) xs wN mr mb ml mr (by simp only [En_nt, lookO, lookT, Nat.reduceEqDiff, Nat.reduceLT, ↓reduceIte]; rfl) mS (by omega) mT mr fun z => ?_
  rw [hpad]
  refine dr_nil (h1 _ ?_); clear h1
  refine ev_seq fun K1 h1 => ev_rf mB ?_
  repeat refine dr_act wN mb ma mc mT mR ?_
  refine dr_act wN mb ma (by exact ⟨⟨by decide, by decide, fun x hx => by simp at hx; subst hx; rfl⟩, ⟨hpl.symm, okBn⟩, by decide⟩) mT mR ?_
  refine dr_act wN mb ma (by exact ⟨by simp only [maxLen]; omega, by omega⟩) mT mR ?_
  repeat refine dr_act wN mb ma mc mT mR ?_
  refine dr_nil (h1 _ ?_); clear h1
  have w5 : IntKind.i64.wrap (((g.m.length + 1 : Nat) : Int) - 1) = (g.m.length : Nat) := by rw [wrap_of (by omega) (by omega)]; omega
  refine ev_seq fun K1 h1 => ev_rf mB ?_
  repeat refine dr_act wN mb ma mc mT mR ?_
  have hcc : ((cap.toNat : Nat) : Int) = cap := by omega
  rw [w5, hcc]
  refine dr_nil (h1 _ (ev_ret ?_)); clear h1
  refine retLR [458] (res' := [.cell 6 32, .tmp 7]) mr (.cell nT mZ ma mc mP (.tmp nT mL .nil)) rfl (by decide) rfl ⟨⟨_, rfl, rfl, rfl, ?_⟩, ⟨_, rfl, rfl, rfl, ?_⟩, trivial⟩
  · simp only [bG, cG, memO, List.length_append, List.length_cons, List.length_nil]; rfl
  · refine Eq.trans ?_ (rnMap (g := cR) (fun _ => rfl) (g.m ++ [padB (bytesOf g.m w ++ xs) cap.toNat]))
    rw [List.map_append]; rfl
end Go.Ev
namespace Go.Ev
open Go Go.RowKit Go.Proofs

theorem mRd {p : Prop} (h : p := by simp only [dropR, Nat.reduceEqDiff, ↓reduceIte] <;> rfl) : p := h

theorem rnR_bG {n0 n1 b : Nat} {g : Gp} : rnR (upN [n0, n1] b) (bG 2 g) = bG b g := rfl

/-- What a call leaves that is handed a gap and its memory, and makes the memory a new one. -/
theorem wr3 {R : List (Nat × Root)} {n0 n1 b : Nat} {zs : List Nat} {g : Gp} : applyW R (wrR [n0, n1] zs b [some (bG 2 g), none, some (rM g.m)]) = (b, rM g.m) :: dropR (dropR ((n0, bG b g) :: dropR (applyW R (zs.map fun z => (z, none))) n0) n1) b := by
  have h : ∀ (ws : List (Nat × Option Root)) (R : List (Nat × Root)) (vs : List (Nat × Option Root)), applyW R (ws ++ vs) = applyW (applyW R ws) vs := by
    intro ws
    induction ws with
    | nil => intro R vs; rfl
    | cons w ws ih =>
      intro R vs
      obtain ⟨n, x⟩ := w
      cases x with
      | none => exact ih _ _
      | some x => exact ih _ _
  rw [wrR, h]
  generalize applyW R (zs.map fun z => (z, none)) = R'
  simp only [newR, Option.map_some, Option.map_none, rnR_bG, rnR_rM]
  rfl

theorem hand2 {R : Rs} {n0 n1 : Nat} {g : Gp} (h0 : R n0 = some (bG n1 g)) (h1 : R n1 = some (rM g.m)) : HandL R [n0, n1] 2 [n0, n1] [bG 1 g, rM g.m] :=
  ⟨⟨_, h0, rfl, rfl, rfl, rfl⟩, ⟨_, h1, rfl, rfl, rnMap (fun _ => rfl) g.m, okMM⟩, trivial⟩

theorem apM_bytes {m m' : List (List Int)} {w w' : Win} {xs : List Int} (h : GW m w) (e : apM m w xs = some (m', w')) : ((m'.getD w'.a.toNat []).drop w'.s.toNat).take w'.n.toNat = bytesOf m w ++ xs := by
  have h0 := h.n0
  have h1 := h.n1
  have h2 := h.s0
  have h3 := h.c1
  have ha : w.a.toNat < m.length := by have := h.a0; have := h.a1; omega
  have hb := bytesOf_length m w
  unfold apM at e
  split at e
  · rename_i hle
    simp only [Option.some.injEq, Prod.mk.injEq] at e
    obtain ⟨rfl, rfl⟩ := e
    show (((wrM m w.a.toNat (w.s + w.n).toNat xs).getD w.a.toNat []).drop w.s.toNat).take (w.n + (xs.length : Nat)).toNat = _
    rw [wrM, getD_set ha, bytesOf_eq h.fits]
    generalize m.getD w.a.toNat [] = r at *
    have e1 : (w.s + w.n).toNat = w.s.toNat + w.n.toNat := by omega
    have e2 : (w.n + (xs.length : Nat)).toNat = w.n.toNat + xs.length := by omega
    rw [e1, e2, ovr, List.append_assoc, List.drop_append, List.length_take]
    rw [show w.s.toNat - min (w.s.toNat + w.n.toNat) r.length = 0 by omega, List.drop_zero, List.drop_take, List.take_append, List.length_take, List.length_drop]
    rw [show w.s.toNat + w.n.toNat - w.s.toNat = w.n.toNat by omega, show w.n.toNat + xs.length - min w.n.toNat (r.length - w.s.toNat) = xs.length by omega, List.take_take, Nat.min_eq_right (by omega), List.take_append_of_le_length (Nat.le_refl _), List.take_length]
  · split at e
    · cases e
    · rename_i hle hno
      simp only [Option.some.injEq, Prod.mk.injEq] at e
      obtain ⟨rfl, rfl⟩ := e
      have e1 : (m ++ [padB (bytesOf m w ++ xs) (capN w.c (w.n + (xs.length : Nat))).toNat]).getD (m.length : Int).toNat [] = padB (bytesOf m w ++ xs) (capN w.c (w.n + (xs.length : Nat))).toNat := by
        simp [List.getD_eq_getElem?_getD]
      show (((m ++ [padB (bytesOf m w ++ xs) (capN w.c (w.n + (xs.length : Nat))).toNat]).getD (m.length : Int).toNat []).drop (0 : Int).toNat).take (w.n + (xs.length : Nat)).toNat = _
      rw [e1, padB]
      show ((bytesOf m w ++ xs ++ _).drop 0).take _ = _
      rw [List.drop_zero, List.take_append_of_le_length (by rw [List.length_append]; omega), List.take_of_length_le (by rw [List.length_append]; omega)]

theorem apM_sub {m m' : List (List Int)} {w w' : Win} {xs : List Int} {q : Nat} (h : GW m w) (e : apM m w xs = some (m', w')) (hq : q ≤ w.n.toNat) : ((m'.getD w'.a.toNat []).drop (w'.s.toNat + q)).take (w.n.toNat - q) = (bytesOf m w).drop q := by
  have hb := bytesOf_length m w
  have hn := (apM_GW h e).2
  have h0 := h.n0
  have k : ((((m'.getD w'.a.toNat []).drop w'.s.toNat).take w'.n.toNat).drop q).take (w.n.toNat - q) = ((bytesOf m w ++ xs).drop q).take (w.n.toNat - q) := by rw [apM_bytes h e]
  rw [List.drop_take, List.take_take, List.drop_drop, Nat.min_eq_left (by omega)] at k
  rw [k, List.drop_append_of_le_length (by omega), List.take_append_of_le_length (by rw [List.length_drop]; omega), List.take_of_length_le (by rw [List.length_drop]; omega)]
end Go.Ev
namespace Go.Ev
open Go Go.RowKit Go.Proofs

theorem c21r (m : List (List Int)) (a : Nat) (k : Int) (ha : a < m.length) (hk : 0 ≤ k) (hk2 : k + (m.getD a []).length ≤ 4000000) :
    GoodR Try.prog 21 [.ref (0, some (a, 0)) 0 (m.getD a []).length, vi k] [rM m] (vi (k + (m.getD a []).length)) [some (rM (m.set a (mk8 k (m.getD a []).length)))] := by
  refine goodR_of (E := En 20 1) (fn := Try.f21) (by kernel_rfl) (by kernel_rfl) rfl rfl (by simp only [List.length_cons, List.length_nil]; decide) ⟨rfl, Nat.le_refl 1⟩ rfl ⟨okMM, trivial⟩ (fun C0 => ?_)
  simp only [argT, rsT, Nat.reduceAdd, List.length_cons, List.length_nil]
  generalize hxs : m.getD a [] = xs at *
  refine ev_seq fun K1 h1 => ev_rf mB ?_
  repeat refine dr_act wN mb ma mc mT mR ?_
  refine dr_nil (h1 _ ?_); clear h1 K1
  refine ev_seq fun K1 h1 => ?_
  refine ev_seq fun K2 h2 => ev_rf mB ?_
  repeat refine dr_act wN mb ma mc mT mR ?_
  refine dr_nil (h2 _ ?_); clear h2 K2
  refine ev_block (ev_loop (α := {i : Nat // i ≤ xs.length}) (fun i => ⟨[(0, .ref (0, some (a, 0)) 0 xs.length), (1, vi (k + (i.1 : Nat))), (5, vi i.1)], [(0, rM (m.set a (mk8 k i.1 ++ xs.drop i.1)))], 17⟩) (fun i => xs.length - i.1) ⟨0, Nat.zero_le _⟩ (weak_ren [] ?_ (chkRm rfl (by decide) ?_ (fun _ => rfl) (fun a => by simp [okC]) mK) mD mQ) (fun ⟨i, hi⟩ => ?_))
  · simp only [Int.natCast_zero, Int.add_zero]; exact mK
  · have e : m.set a (mk8 k 0 ++ xs.drop 0) = m := by
      have h := wrM_nil (m := m) (a := a) (s := 0)
      rw [wrM, ovr_nil, hxs] at h
      simpa [mk8] using h
    rw [e]
  have hmm : (mk8 k i ++ xs.drop i).length = xs.length := by simp [mk8]; omega
  have hg : (m.set a (mk8 k i ++ xs.drop i)).getD a [] = mk8 k i ++ xs.drop i := getD_set ha
  have hal : a < (m.set a (mk8 k i ++ xs.drop i)).length := by rw [List.length_set]; exact ha
  refine ev_seq fun K2 h2 => ev_seq fun K3 h3 => ev_rf mB ?_
  repeat refine dr_act wN mb ma mc mT mR ?_
  refine dr_nil (h3 _ ?_); clear h3
  refine ev_cond _ ml (fun h => ev_skip (h2 _ ?_)) (fun h => ev_exit ?_)
  · clear h1 h2
    have hlt : i < xs.length := by have := of_decide_eq_true h; omega
    refine ev_seq fun K2 h2 => ev_block (ev_seq fun K3 h3 => ev_rf mB ?_)
    repeat refine dr_act wN mb ma mc mT mR ?_
    refine dr_ixp wN mr mb ml ml (getRow mr hal) mS (by omega) (Nat.zero_add _) mT ?_
    refine dr_stp (zs := (mk8 k (i + 1) ++ xs.drop (i + 1)).map cB) (r' := rM (m.set a (mk8 k (i + 1) ++ xs.drop (i + 1)))) wN mr mb ml (getRow mr hal) mr ml ⟨rfl, rfl⟩ mZ ⟨by rw [List.length_map, Int.toNat_natCast, hg, hmm]; exact hlt, Nat.le_refl 1⟩ ?_ ?_ mT mR ?_
    · rw [Int.toNat_natCast, hg, ← mk8_set hlt]
      exact set_put 0 (by rw [hmm]; exact hlt) rfl
    · show setP (rM (m.set a (mk8 k i ++ xs.drop i))) _ _ = _
      rw [setP_row hal, List.set_set]
    refine dr_nil (h3 _ (ev_rf mB ?_)); clear h3
    repeat refine dr_act wN mb ma mc mT mR ?_
    refine dr_nil (h2 _ (ev_rf mB ?_)); clear h2
    repeat refine dr_act wN mb ma mc mT mR ?_
    refine dr_nil ⟨⟨i + 1, by omega⟩, by simp only []; omega, ?_⟩
    rw [w64p (n := xs.length) (by omega) (by omega), wk hlt hk hk2]
    exact weak_ren [] mK (chkRm rfl (by decide) rfl (fun _ => rfl) (fun a => by simp [okC]) mK) mD mQ
  · simp only [seqK, loopK, blkK, ↓reduceIte]
    refine h1 _ ?_; clear h1 h2
    have hge := of_decide_eq_false h
    obtain rfl : i = xs.length := by omega
    refine ev_seq fun K1 h1 => ev_rf mB ?_
    repeat refine dr_act wN mb ma mc mT mR ?_
    refine dr_nil (h1 _ (ev_ret ?_)); clear h1
    refine retRT [] [4] (hR := ⟨⟨_, rfl, rfl, rfl, ?_⟩, trivial⟩)
    rw [List.drop_length, List.append_nil]
    exact rnMap (g := cR) (fun _ => rfl) _

theorem tot_app : ∀ (a b : List (List Int)), tot (a ++ b) = tot a + tot b
  | [], b => by simp [tot]
  | x :: a, b => by simp only [List.cons_append, tot, tot_app a b]; omega
theorem mkM_app (r : List Int) : ∀ (a : List (List Int)) (k : Int), mkM k (a ++ [r]) = mkM k a ++ [mk8 (k + tot a) r.length]
  | [], k => by simp [mkM, tot]
  | x :: a, k => by
    simp only [List.cons_append, mkM, mkM_app r a, tot]
    congr 4
    omega

theorem take_s {m : List (List Int)} {i : Nat} (h : i < m.length) : m.take (i + 1) = m.take i ++ [m.getD i []] := by
  rw [List.take_succ_eq_append_getElem h, List.getD_eq_getElem?_getD, List.getElem?_eq_getElem h]; rfl

theorem mkM_tot : ∀ (m : List (List Int)) (k : Int), tot (mkM k m) = tot m
  | [], k => rfl
  | r :: rs, k => by simp only [mkM, tot, mkM_tot rs, mk8_len]

theorem tot_le {m : List (List Int)} {i : Nat} (h : i < m.length) : tot (m.take i) + (m.getD i []).length ≤ tot m := by
  have e : m = m.take i ++ m.drop i := (List.take_append_drop i m).symm
  have := congrArg tot e
  rw [tot_app, tot_drop h] at this
  omega

theorem c130 (m : List (List Int)) (k : Int) (hl : m.length ≤ 1048576) (hk : 0 ≤ k) (hk2 : k + tot m ≤ 4000000) :
    GoodR Try.prog 130 [.ref (0, none) 0 m.length, vi k] [rM m] (vi (k + tot m)) [some (rM (mkM k m))] := by
  refine goodR_of (E := En 19 1) (fn := Try.f130) (by kernel_rfl) (by kernel_rfl) rfl rfl (by simp only [List.length_cons, List.length_nil]; decide) ⟨rfl, Nat.le_refl 1⟩ rfl ⟨okMM, trivial⟩ (fun C0 => ?_)
  simp only [argT, rsT, Nat.reduceAdd, List.length_cons, List.length_nil]
  refine ev_seq fun K1 h1 => ev_rf mB ?_
  repeat refine dr_act wN mb ma mc mT mR ?_
  refine dr_nil (h1 _ ?_); clear h1 K1
  refine ev_seq fun K1 h1 => ?_
  refine ev_seq fun K2 h2 => ev_rf mB ?_
  repeat refine dr_act wN mb ma mc mT mR ?_
  refine dr_nil (h2 _ ?_); clear h2 K2
  refine ev_block (ev_loop (α := {i : Nat // i ≤ m.length}) (fun i => ⟨[(0, .ref (0, none) 0 m.length), (1, vi (k + (tot (m.take i.1) : Nat))), (5, vi i.1)], [(0, rM (mkM k (m.take i.1) ++ m.drop i.1))], 17⟩) (fun i => m.length - i.1) ⟨0, Nat.zero_le _⟩ (weak_ren [] ?_ (chkRm rfl (by decide) (by simp [mkM]) (fun _ => rfl) (fun a => by simp [okC]) mK) mD mQ) (fun ⟨i, hi⟩ => ?_))
  · simp only [List.take_zero, tot, Int.natCast_zero, Int.add_zero]; exact mK
  have hcl : (mkM k (m.take i) ++ m.drop i).length = m.length := by rw [List.length_append, mkM_length, List.length_take, List.length_drop]; omega
  refine ev_seq fun K2 h2 => ev_seq fun K3 h3 => ev_rf mB ?_
  repeat refine dr_act wN mb ma mc mT mR ?_
  refine dr_nil (h3 _ ?_); clear h3
  refine ev_cond _ ml (fun h => ev_skip (h2 _ ?_)) (fun h => ev_exit ?_)
  · clear h1 h2
    have hlt : i < m.length := by have := of_decide_eq_true h; omega
    have htl := tot_le hlt
    have hml : (mkM k (m.take i)).length = i := by rw [mkM_length, List.length_take]; omega
    have hci : (mkM k (m.take i) ++ m.drop i).getD i [] = m.getD i [] := by
      rw [List.getD_eq_getElem?_getD, List.getElem?_append_right (by omega), hml, Nat.sub_self, List.getElem?_drop, Nat.add_zero, ← List.getD_eq_getElem?_getD]
    have hcs := c21r (mkM k (m.take i) ++ m.drop i) i (k + (tot (m.take i) : Nat)) (by omega) (by omega) (by rw [hci]; omega)
    rw [hci] at hcs
    refine ev_seq fun K2 h2 => ev_block (ev_rf mB ?_)
    repeat refine dr_act wN mb ma mc mT mR ?_
    refine dr_ixp wN mr mb ml ml mr mS (by omega) (Nat.zero_add _) mT ?_
    refine dr_ldr wN mr mb ml mr (by omega) mZ mT ?_
    repeat refine dr_act wN mb ma mc mT mR ?_
    rw [Int.toNat_natCast, hci]
    refine dr_callR [0] [] wN mr mb mx hcs (.ren rfl rfl (.ren rfl rfl .nil)) (hand1 mr) ⟨⟨by decide, nz⟩, Nat.le_of_ble_eq_true rfl⟩ (v := vi (k + (tot (m.take i) : Nat) + (m.getD i []).length)) rfl mT (wr1.trans mRd) ?_
    repeat refine dr_act wN mb ma mc mT mR ?_
    refine dr_nil (h2 _ (ev_rf mB ?_)); clear h2
    repeat refine dr_act wN mb ma mc mT mR ?_
    refine dr_nil ⟨⟨i + 1, by omega⟩, by simp only []; omega, ?_⟩
    have e1 : k + (tot (m.take i) : Nat) + ((m.getD i []).length : Nat) = k + (tot (m.take (i + 1)) : Nat) := by
      rw [take_s hlt, tot_app]; simp only [tot]; omega
    have e2 : (mkM k (m.take i) ++ m.drop i).set i (mk8 (k + (tot (m.take i) : Nat)) (m.getD i []).length) = mkM k (m.take (i + 1)) ++ m.drop (i + 1) := by
      rw [List.set_append, if_neg (by omega), hml, Nat.sub_self, drop_cons hlt, List.set_cons_zero, take_s hlt, mkM_app, List.append_assoc]
      rfl
    rw [w64p (n := m.length) (by omega) (by omega), e1, e2]
    exact weak_ren [] mK (chkRm rfl (by decide) rfl (fun _ => rfl) (fun a => by simp [okC]) mK) mD mQ
  · simp only [seqK, loopK, blkK, ↓reduceIte]
    refine h1 _ ?_; clear h1 h2
    have hge := of_decide_eq_false h
    obtain rfl : i = m.length := by omega
    simp only [List.take_length, List.drop_length, List.append_nil]
    refine ev_seq fun K1 h1 => ev_rf mB ?_
    repeat refine dr_act wN mb ma mc mT mR ?_
    refine dr_nil (h1 _ (ev_ret ?_)); clear h1
    exact retRT [] [4] (hR := ⟨⟨_, rfl, rfl, rfl, rnMap (g := cR) (fun _ => rfl) _⟩, trivial⟩)
end Go.Ev
namespace Go.Ev
open Go Go.RowKit Go.Proofs

theorem c63 (m : List (List Int)) (k : Int) (hl : m.length ≤ 1048576) (hk : 0 ≤ k) (hk2 : k + tot m ≤ 4000000) :
    GoodR Try.prog 63 [oM 0 m, vi k] [rM m] (vi (k + tot m)) [some (rM (mkM k m))] := by
  refine goodR_of (E := En 10 1) (fn := Try.f63) (by kernel_rfl) (by kernel_rfl) rfl rfl (by simp only [List.length_cons, List.length_nil]; decide) ⟨rfl, Nat.le_refl 1⟩ rfl ⟨okMM, trivial⟩ (fun C0 => ?_)
  simp only [argT, rsT, Nat.reduceAdd, List.length_cons, List.length_nil]
  refine ev_seq fun K1 h1 => ev_rf mB ?_
  repeat refine dr_act wN mb ma mc mT mR ?_
  refine dr_nil (h1 _ ?_); clear h1 K1
  refine ev_seq fun K1 h1 => ev_rf mB ?_
  repeat refine dr_act wN mb ma mc mT mR ?_
  refine dr_callR [0] [] wN mr mb mx (c130 m k hl hk hk2) (.ren rfl rfl (.ren rfl rfl .nil)) (hand1 mr) ⟨⟨by decide, nz⟩, Nat.le_of_ble_eq_true rfl⟩ (v := vi (k + tot m)) rfl mT (wr1.trans mRd) ?_
  repeat refine dr_act wN mb ma mc mT mR ?_
  refine dr_nil (h1 _ ?_); clear h1
  refine ev_seq fun K1 h1 => ev_rf mB ?_
  repeat refine dr_act wN mb ma mc mT mR ?_
  refine dr_nil (h1 _ (ev_ret ?_)); clear h1
  exact retRT [] [4] (hR := ⟨⟨_, rfl, rfl, rfl, rnMap (g := cR) (fun _ => rfl) _⟩, trivial⟩)

theorem c20 (g : Gp) (k : Int) (hl : g.m.length ≤ 1048576) (hk : 0 ≤ k) (hk2 : k + tot g.m ≤ 4000000) :
    GoodR Try.prog 20 [oG 0 g, vi k] [rM g.m] (vi (k + tot g.m)) [some (rM (mkM k g.m))] := by
  refine goodR_of (E := En 10 1) (fn := Try.f20) (by kernel_rfl) (by kernel_rfl) rfl rfl (by simp only [List.length_cons, List.length_nil]; decide) ⟨rfl, Nat.le_refl 1⟩ rfl ⟨okMM, trivial⟩ (fun C0 => ?_)
  simp only [argT, rsT, Nat.reduceAdd, List.length_cons, List.length_nil]
  refine ev_seq fun K1 h1 => ev_rf mB ?_
  repeat refine dr_act wN mb ma mc mT mR ?_
  refine dr_nil (h1 _ ?_); clear h1 K1
  refine ev_seq fun K1 h1 => ev_rf mB ?_
  repeat refine dr_act wN mb ma mc mT mR ?_
  refine dr_callR [0] [] wN mr mb mx (c63 g.m k hl hk hk2) (.ren rfl rfl (.ren rfl rfl .nil)) (hand1 mr) ⟨⟨by decide, nz⟩, Nat.le_of_ble_eq_true rfl⟩ (v := vi (k + tot g.m)) rfl mT (wr1.trans mRd) ?_
  repeat refine dr_act wN mb ma mc mT mR ?_
  refine dr_nil (h1 _ ?_); clear h1
  refine ev_seq fun K1 h1 => ev_rf mB ?_
  repeat refine dr_act wN mb ma mc mT mR ?_
  refine dr_nil (h1 _ (ev_ret ?_)); clear h1
  exact retRT [] [4] (hR := ⟨⟨_, rfl, rfl, rfl, rnMap (g := cR) (fun _ => rfl) _⟩, trivial⟩)

abbrev rB (ty : TypeId) (xs : List Int) : Root := ⟨ty, 1, xs.map cB⟩
theorem okBB {xs : List Int} {bd : Nat} : (xs.map cB).all (·.all (okC false bd)) = true := okMap (fun _ => rfl) xs
theorem handB {R : Rs} {n ty : Nat} {xs : List Int} (h : R n = some (rB ty xs)) : HandL R [n] 1 [n] [rB ty xs] :=
  ⟨⟨_, h, rfl, rfl, rnMap (fun _ => rfl) xs, okBB⟩, trivial⟩
theorem rnR_rB {ρ : Nat → Nat} {ty : Nat} {xs : List Int} : rnR ρ (rB ty xs) = rB ty xs := by
  show Root.mk ty 1 ((xs.map cB).map (·.map (rnC ρ))) = _
  rw [← rnMap (fun _ => rfl)]
theorem wrB {R : List (Nat × Root)} {n b ty : Nat} {xs : List Int} : applyW R (wrR [n] [] b [some (rB ty xs)]) = (n, rB ty xs) :: dropR R n := by
  simp only [wrR, newR, upN, List.map_nil, List.nil_append, Option.map_some, rnR_rB]
  rfl

abbrev oE (n : Nat) (e : Ed) : V := .agg (cE (.ref (n, none) 0 e.s.length) e)

theorem c28 (ty : TypeId) (e : Ed) (k : Int) (hl : e.s.length ≤ 1048576) (hk : 0 ≤ k) (hk2 : k + e.s.length ≤ 4000000) :
    GoodR Try.prog 28 [oE 0 e, vi k] [rB ty e.s] (vi (k + e.s.length)) [some (rB ty (mk8 k e.s.length))] := by
  refine goodR_of (E := En 10 1) (fn := Try.f28) (by kernel_rfl) (by kernel_rfl) rfl rfl (by simp only [List.length_cons, List.length_nil]; decide) ⟨rfl, Nat.le_refl 1⟩ rfl ⟨okBB, trivial⟩ (fun C0 => ?_)
  simp only [argT, rsT, Nat.reduceAdd, List.length_cons, List.length_nil]
  refine ev_seq fun K1 h1 => ev_rf mB ?_
  repeat refine dr_act wN mb ma mc mT mR ?_
  refine dr_nil (h1 _ ?_); clear h1 K1
  refine ev_seq fun K1 h1 => ev_rf mB ?_
  repeat refine dr_act wN mb ma mc mT mR ?_
  refine dr_callR [0] [] wN mr mb mx (c21 ty e.s k hk (by omega) hl) (.ren rfl rfl (.ren rfl rfl .nil)) (handB mr) ⟨⟨by decide, nz⟩, Nat.le_of_ble_eq_true rfl⟩ (v := vi (k + e.s.length)) rfl mT (wrB.trans mRd) ?_
  repeat refine dr_act wN mb ma mc mT mR ?_
  refine dr_nil (h1 _ ?_); clear h1
  refine ev_seq fun K1 h1 => ev_rf mB ?_
  repeat refine dr_act wN mb ma mc mT mR ?_
  refine dr_nil (h1 _ (ev_ret ?_)); clear h1
  exact retRT [] [4] (hR := ⟨⟨_, rfl, rfl, rfl, rnMap (g := cB) (fun _ => rfl) _⟩, trivial⟩)
end Go.Ev
namespace Go.Ev
open Go Go.RowKit Go.Proofs
variable {P : Program}

/-- A result that is nil in one cell is an empty slice of an empty root. -/
theorem good_nilX {f : FuncId} {args : List V} {v v2 : V} {ty sz : Nat} (h : Good P f args v []) (hv : ∀ (C : Cx) (u : Value), Ext C (mkCx C C.w [] 0 ⟨ty, sz, []⟩ fun _ => none) → VR C u v → VR (mkCx C C.w [] 0 ⟨ty, sz, []⟩ fun _ => none) u v2) : Good P f args v2 [⟨ty, sz, []⟩] := by
  refine ⟨h.1, fun w F vals hF hl hw => (h.2 w F vals hF hl hw).mono ?_⟩
  rintro e w' ⟨v', C', rfl, rfl, hS, hR, hV, hB, hFn, hO, hA, hN⟩
  obtain ⟨S1, E1, F1⟩ := empty_ok (b := 0) (ty := ty) (sz := sz) hS (fun h => absurd (hA 0 h) (by simp))
  refine ⟨v', _, rfl, ?_, S1, ?_, hv C' v' E1 hV, hB, hFn, fun k hk => ?_, fun k hk => ?_, fun r hr => ?_⟩
  · rfl
  · show (fun n => if n = 0 then some (Root.mk ty sz []) else if n ∈ [] then none else C'.R n) = _
    funext n
    rw [hR]
    cases n with
    | zero => rfl
    | succ n => simp
  · rcases F1.own k hk with h1 | h1
    · exact hO k h1
    · exact Nat.le_trans hB.size h1
  · rcases hk with h1 | rfl
    · exact absurd (hA k h1) (by simp)
    · simp
  · simp only [List.mem_singleton] at hr
    subst hr
    rfl

abbrev gz : Gp := ⟨[], ⟨0, 0, 0, 0⟩, 0, 0⟩

theorem good_nilG {f : FuncId} {args : List V} (h : Good P f args (.tup [zG, vi 0, vb false]) []) : Good P f args (.tup [oG 0 gz, vi 0, vb false]) [rM []] := by
  refine good_nilX h fun C u he hu => ?_
  obtain ⟨vs, rfl, h1, h2⟩ := hu.tup_inv
  refine .tup h1 (fun i u c h3 h4 => ?_)
  cases i with
  | succ i => exact (h2 (i + 1) u c h3 (by simpa using h4)).ext he
  | zero =>
    simp only [List.getElem?_cons_zero, Option.some.injEq] at h4
    subst h4
    obtain ⟨us, rfl, k1, k2⟩ := (h2 0 u zG h3 rfl).agg_inv
    refine .agg k1 (fun j u' c' m1 m2 => ?_)
    cases j with
    | succ j => exact (k2 (j + 1) u' c' m1 (by simpa using m2)).ext he
    | zero =>
      simp only [List.getElem?_cons_zero, Option.some.injEq] at m2
      subst m2
      exact empty_ref (k2 0 u' _ m1 rfl)

/-- What DoEdit comes to. -/
def dR (g : Gp) (e : Ed) : Gp × Int × Bool :=
  match dE g e with
  | some (r, c) => (r, c, true)
  | none => (gz, 0, false)

theorem uni {f : FuncId} {args : List V} {g : Gp} {e : Ed} (h : Good P f args (oGC (dE g e)) (rGC (dE g e))) : Good P f args (.tup [oG 0 (dR g e).1, vi (dR g e).2.1, vb (dR g e).2.2]) [rM (dR g e).1.m] := by
  unfold dR
  cases hd : dE g e with
  | none => rw [hd] at h; exact good_nilG h
  | some rc =>
    obtain ⟨r, c⟩ := rc
    rw [hd] at h; exact h

theorem ptG_GG {g h : Gp} {xs : List Int} (hg : GG g) (e : ptG g xs = some h) : GG h := by
  have key : ∀ v : Gp, GG v → v.p + (xs.length : Nat) ≤ v.q → GG ⟨wrM v.m v.w.a.toNat (v.w.s + v.p).toNat xs, v.w, v.p + xs.length, v.q⟩ := by
    intro v gv hv
    have h1 := gv.w.n1
    have h2 := gv.w.c1
    have h3 := gv.w.s0
    have h4 := gv.qn
    have h5 := gv.p0
    exact ⟨gv.w.wr (by omega), by show 0 ≤ v.p + _; omega, hv, gv.qn⟩
  unfold ptG at e
  split at e
  · cases e
  · rename_i v hv
    simp only [Option.some.injEq] at e
    subst e
    split at hv
    · obtain ⟨k1, k2, k3, _⟩ := wdG_GG hg (by omega) hv
      exact key v k1 (by omega)
    · simp only [Option.some.injEq] at hv
      subst hv
      exact key g hg (by omega)

theorem edG_GG {g r : Gp} {e : Ed} {c : Int} (hg : GG g) (h : edG g e = some (r, c)) : GG r := by
  unfold edG at h
  split at h
  · rename_i hc
    split at h
    · cases h
    · rename_i v hv
      simp only [Option.some.injEq, Prod.mk.injEq] at h
      obtain ⟨rfl, _⟩ := h
      obtain ⟨gv, vp, vq, vw⟩ := mvG_GG hg hc.1.1 hc.1.2
      refine ptG_GG (g := ⟨(mvG g e.at_).m, (mvG g e.at_).w, (mvG g e.at_).p, (mvG g e.at_).q + e.n⟩) ⟨gv.w, gv.p0, ?_, ?_⟩ hv
      · show (mvG g e.at_).p ≤ (mvG g e.at_).q + e.n
        have := hg.pq
        omega
      · show (mvG g e.at_).q + e.n ≤ (mvG g e.at_).w.n
        have h1 : e.n ≤ (g.w.n - (g.q - g.p)) - e.at_ := hc.2.2
        rw [vw]
        omega
  · cases h

theorem dR_GM (g : Gp) (e : Ed) : GM (dR g e).1.m := by
  unfold dR
  cases hd : dE g e with
  | none => exact ⟨Nat.zero_le _, fun r hr => by simp at hr, fun r hr => by simp at hr⟩
  | some rc =>
    obtain ⟨r, c⟩ := rc
    unfold dE at hd
    split at hd
    · rename_i hG
      exact (edG_GG (okG_GG hG) hd).w.g
    · cases hd

theorem tot_bound : ∀ (m : List (List Int)), (∀ r, r ∈ m → r.length ≤ 64) → tot m ≤ 64 * m.length
  | [], _ => Nat.le_refl 0
  | r :: rs, h => by
    have h1 := h r (by simp)
    have h2 := tot_bound rs fun x hx => h x (by simp [hx])
    simp only [tot, List.length_cons]; omega

theorem GM.tot {m : List (List Int)} (h : GM m) : tot m ≤ 1024 := by
  have := tot_bound m h.r
  have := h.l
  omega

theorem szF_bound : ∀ (m : List (List Int)) (k : Int), 0 ≤ k → 0 ≤ szF m k → (tot m : Int) ≤ k
  | [], k, h, _ => h
  | r :: rs, k, h, hs => by
    simp only [szF] at hs
    split at hs
    · omega
    · rename_i hp
      have h1 : 0 ≤ sz1 r k := by omega
      have h2 := szF_bound rs _ h1 hs
      have h3 : sz1 r k = k - r.length := by
        unfold sz1 at h1 ⊢
        split
        · rename_i hc; rw [if_pos hc] at h1; omega
        · rfl
      simp only [tot]
      omega

theorem mem_tot : ∀ (m : List (List Int)) r, r ∈ m → r.length ≤ tot m
  | x :: m, r, h => by
    simp only [tot]
    rcases List.mem_cons.1 h with rfl | h
    · omega
    · have := mem_tot m r h; omega

theorem szM_bound {m : List (List Int)} (h : 0 ≤ szM m 1048576) : m.length ≤ 1048576 ∧ (∀ r, r ∈ m → r.length ≤ 1048576) ∧ tot m ≤ 1048576 := by
  unfold szM at h
  split at h
  · omega
  · rename_i hc
    have h1 := szF_bound m _ (by omega) h
    refine ⟨by omega, fun r hr => ?_, by omega⟩
    have := mem_tot m r hr
    omega

theorem qG_self (g : Gp) : qG g g = true := by simp [qG, qW]
theorem qE_self (e : Ed) : qE e e = true := by simp [qE]

theorem mkM_mkM : ∀ (m : List (List Int)) (k : Int), mkM k (mkM k m) = mkM k m
  | [], k => rfl
  | r :: rs, k => by simp only [mkM, mk8_len, mkM_mkM rs]

/-- An own edit is read. -/
theorem fE {R : Rs} {n ty : Nat} {e : Ed} (h : R n = some (rB ty e.s)) : Frz R (oE n e) (eE e) :=
  .agg (.cons (fn rfl) (.cons (fn rfl) (.cons (fB (by rw [act_of h]) (by rw [List.drop_zero, List.take_of_length_le (Nat.le_refl _)])) .nil)))
end Go.Ev
