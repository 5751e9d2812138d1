/- Part 3 of the proof: the evaluator and the contracts of functions. -/
import Derived.Below
import Derived.KernelRfl
import Derived.Laws.AppendOwn
import Derived.Laws.BytesArg
import Derived.Laws.BytesString
import Derived.Laws.CopyRow
import Derived.Laws.Entries
import Derived.Laws.IdiomCopy
import Derived.Laws.MakeOwn
import Derived.Laws.OwnMore
import Derived.Orders
import Derived.Test.YtmkcbbbknbahgaaEvDd2
set_option linter.unusedVariables false
set_option linter.unusedSimpArgs false
namespace Go.Ev
open Go Go.RowKit
variable {E : Env} {C0 : Cx}

abbrev Lg := List Nat × List (Nat × Option Root)

def depsOf (o : Oper) : List Nat := o.after.toList.filterMap fun e => if Region.binds .any e = true then some e.on else none

def closL : List (List Nat) → List Oper → List (List Nat)
  | acc, [] => acc
  | acc, o :: os => closL (acc ++ [(depsOf o).flatMap fun d => d :: acc.getD d []]) os

inductive Dep (ops : List Oper) : Nat → Nat → Prop
  | one {i d : Nat} {o : Oper} (h : ops[i]? = some o) (hd : d ∈ depsOf o) : Dep ops d i
  | more {i d a : Nat} {o : Oper} (h : ops[i]? = some o) (hd : d ∈ depsOf o) (k : Dep ops a d) : Dep ops a i

theorem closL_dep {ops : List Oper} : ∀ (l pre : List Oper) (acc : List (List Nat)), ops = pre ++ l → acc.length = pre.length → (∀ (i a : Nat), a ∈ acc.getD i [] → Dep ops a i) → ∀ (i a : Nat), a ∈ (closL acc l).getD i [] → Dep ops a i
  | [], pre, acc, _, _, h => h
  | o :: l, pre, acc, he, hl, h => by
    refine closL_dep l (pre ++ [o]) _ (by rw [he]; simp) (by simp [hl]) (fun i a ha => ?_)
    have ho : ops[pre.length]? = some o := by rw [he]; simp
    rw [List.getD_eq_getElem?_getD, List.getElem?_append] at ha
    split at ha
    · rw [← List.getD_eq_getElem?_getD] at ha
      exact h i a ha
    · rename_i hge
      by_cases e : i = acc.length
      · subst e
        rw [Nat.sub_self] at ha
        simp only [List.getElem?_cons_zero, Option.getD_some] at ha
        obtain ⟨d, hd, hda⟩ := List.mem_flatMap.1 ha
        rw [hl]
        rcases List.mem_cons.1 hda with rfl | hda
        · exact .one ho hd
        · exact .more ho hd (h d a hda)
      · have : i - acc.length ≠ 0 := by omega
        obtain ⟨k, hk⟩ := Nat.exists_eq_succ_of_ne_zero this
        rw [hk] at ha
        simp at ha

def disj (xs ys : List Nat) : Bool := xs.all fun x => !ys.contains x

theorem disj_spec {xs ys : List Nat} (h : disj xs ys = true) : ∀ n, n ∈ xs → n ∉ ys := by
  intro n hn hy
  have := List.all_eq_true.1 h n hn
  simp at this
  exact this hy

def indepB (ops : Array Oper) (lgs : List Lg) (a i : Nat) : Bool :=
  (match ops[a]?, ops[i]? with
   | some oa, some oi => oa.apart ops oi
   | _, _ => true) &&
  disj (lgs.getD i ([], [])).1 (keysOf (lgs.getD a ([], [])).2) && disj (lgs.getD a ([], [])).1 (keysOf (lgs.getD i ([], [])).2) && disj (keysOf (lgs.getD a ([], [])).2) (keysOf (lgs.getD i ([], [])).2)

theorem indepB_spec {ops : Array Oper} {lgs : List Lg} {a i : Nat} (h : indepB ops lgs a i = true) : Indep ops (fun k => lgs.getD k ([], [])) a i := by
  simp only [indepB, Bool.and_eq_true] at h
  obtain ⟨⟨⟨h1, h2⟩, h3⟩, h4⟩ := h
  refine ⟨fun oa oi ha hi => ?_, disj_spec h2, disj_spec h3, disj_spec h4⟩
  rw [ha, hi] at h1
  exact h1

/-- Any order comes to the same. -/
def cfB (ops : Array Oper) (lgs : List Lg) : Bool :=
  let cl := closL [] ops.toList
  (List.range ops.size).all fun i =>
    (match ops[i]? with | some o => (depsOf o).all (fun d => decide (d < i)) | none => true) &&
    (List.range i).all fun a => (cl.getD i []).contains a || indepB ops lgs a i

theorem cfB_spec {ops : Array Oper} {lgs : List Lg} (h : cfB ops lgs = true) : (∀ (i : Nat) o, ops[i]? = some o → ∀ d, d ∈ depsOf o → d < i) ∧ ∀ a i, a < i → i < ops.size → Dep ops.toList a i ∨ Indep ops (fun k => lgs.getD k ([], [])) a i := by
  simp only [cfB] at h
  have h' := List.all_eq_true.1 h
  refine ⟨fun i o ho d hd => ?_, fun a i hai hi => ?_⟩
  · have hi := (Array.getElem?_eq_some_iff.1 ho).1
    have := h' i (List.mem_range.2 hi)
    simp only [Bool.and_eq_true, ho] at this
    have := List.all_eq_true.1 this.1 d hd
    simpa using this
  · have := h' i (List.mem_range.2 hi)
    simp only [Bool.and_eq_true] at this
    have := List.all_eq_true.1 this.2 a (List.mem_range.2 hai)
    rw [Bool.or_eq_true] at this
    rcases this with h1 | h1
    · left
      refine closL_dep ops.toList [] [] rfl rfl (fun i a ha => by simp at ha) i a ?_
      simpa using h1
    · exact .inr (indepB_spec h1)

theorem any_exec {ops : Array Oper} {base : Nat} {lgs : List Lg} (hcf : cfB ops lgs = true) {Q : Exit → Act → World → Prop} {T' : Nat → V} {R' : Rs} : ∀ (fuel : Nat) (listed : Array Bool) (L : List Nat) (S : Nat → Prop) (T : Nat → V) (R : Rs) (a : Act) (w : World),
    listed.size = ops.size → L.length ≤ fuel → (∀ i, i ∈ L ↔ listed[i]? = some false) → L.Pairwise (· < ·) → (∀ i, i ∈ L → ¬ S i) → (∀ (j : Nat) o, listed[j]? = some true → ops[j]? = some o → ∀ d, d ∈ depsOf o → listed[d]? = some true) →
    Inv E C0 base S T R a w → Chain E ops base (fun k => lgs.getD k ([], [])) L T R T' R' → (∀ S' a' w', Inv E C0 base S' T' R' a' w' → (∀ j, S' j → S j ∨ j ∈ L) → Q .normal a' w') → wpAny E.P .any ops Q fuel listed a w := by
  obtain ⟨hlow, hpair⟩ := cfB_spec hcf
  intro fuel
  -- the first of what is left is ready
  have firstReady : ∀ (listed : Array Bool) (i : Nat) (L : List Nat), listed.size = ops.size → (∀ k, k ∈ i :: L ↔ listed[k]? = some false) → (i :: L).Pairwise (· < ·) → i ∈ Region.ready .any ops listed := by
    intro listed i L hs hL hp
    have hi := (hL i).1 (by simp)
    have hlt : i < ops.size := by rw [← hs]; exact (Array.getElem?_eq_some_iff.1 hi).1
    rw [mem_ready]
    refine ⟨by simp [hi], ops[i], Array.getElem?_eq_getElem hlt, fun e he hb => ?_⟩
    have hd : e.on ∈ depsOf ops[i] := List.mem_filterMap.2 ⟨e, by simpa using he, by rw [if_pos hb]⟩
    have hdl := hlow i _ (Array.getElem?_eq_getElem hlt) e.on hd
    have hnot : e.on ∉ i :: L := by
      intro hm
      rcases List.mem_cons.1 hm with h1 | h1
      · omega
      · have := (List.pairwise_cons.1 hp).1 e.on h1; omega
    have hsz : e.on < listed.size := by omega
    have : listed[e.on]? ≠ some false := fun h => hnot ((hL e.on).2 h)
    rw [Array.getElem?_eq_getElem hsz] at this
    have h3 : listed[e.on] = true := by
      cases h4 : listed[e.on] with
      | true => rfl
      | false => exact absurd (by rw [h4]) this
    simp [hsz, h3]
  induction fuel with
  | zero =>
    intro listed L S T R a w hs hf hL hp hS hcl hI hC hq
    have hL0 : L = [] := List.eq_nil_of_length_eq_zero (by omega)
    subst hL0
    obtain ⟨rfl, rfl⟩ := hC
    refine ⟨?_, hq S a w hI fun j hj => .inl hj⟩
    cases hr : Region.ready .any ops listed with
    | nil => rfl
    | cons i r =>
      have : i ∈ Region.ready .any ops listed := by rw [hr]; simp
      rw [mem_ready] at this
      have h1 : listed[i]? = some false := by
        cases e : listed[i]? with
        | none => simp [e] at this
        | some b => simp [e] at this; rw [this.1]
      exact absurd ((hL i).2 h1) (by simp)
  | succ fuel ih =>
    intro listed L S T R a w hs hf hL hp hS hcl hI hC hq
    refine ⟨fun hr => ?_, fun i hi => ?_⟩
    · cases L with
      | nil =>
        obtain ⟨rfl, rfl⟩ := hC
        exact hq S a w hI fun j hj => .inl hj
      | cons i L =>
        have := firstReady listed i L hs hL hp
        rw [hr] at this
        cases this
    · rw [mem_ready] at hi
      obtain ⟨hi1, o, ho, hdep⟩ := hi
      have h1 : listed[i]? = some false := by
        cases e : listed[i]? with
        | none => simp [e] at hi1
        | some b => simp [e] at hi1; rw [hi1]
      obtain ⟨l1, l2, rfl⟩ := List.append_of_mem ((hL i).2 h1)
      have hlt : i < ops.size := (Array.getElem?_eq_some_iff.1 ho).1
      have hdeps : ∀ d, d ∈ depsOf o → listed[d]? = some true := by
        intro d hd
        obtain ⟨e, he, hb⟩ := List.mem_filterMap.1 hd
        split at hb
        · rename_i hb'
          cases hb
          have := hdep e (by simpa using he) hb'
          cases e2 : listed[e.on]? with
          | none => simp [e2] at this
          | some b => simp [e2] at this; rw [this]
        · cases hb
      have hclosed : ∀ x i', Dep ops.toList x i' → (listed[i']? = some true ∨ i' = i) → listed[x]? = some true := by
        intro x i' hd
        induction hd with
        | one h hd =>
          rintro (h2 | rfl)
          · exact hcl _ _ h2 (by simpa using h) _ hd
          · have : some o = some _ := ho.symm.trans (by simpa using h)
            cases this
            exact hdeps _ hd
        | more h hd k ih2 =>
          rintro (h2 | rfl)
          · exact ih2 (.inl (hcl _ _ h2 (by simpa using h) _ hd))
          · have : some o = some _ := ho.symm.trans (by simpa using h)
            cases this
            exact ih2 (.inl (hdeps _ hd))
      have hpl := List.pairwise_append.1 hp
      have hind : ∀ x, x ∈ l1 → Indep ops (fun k => lgs.getD k ([], [])) x i := by
        intro x hx
        have hxi : x < i := hpl.2.2 x hx i (by simp)
        rcases hpair x i hxi hlt with h2 | h2
        · have h3 := hclosed x i h2 (.inr rfl)
          have h4 := (hL x).1 (by simp [hx])
          rw [h3] at h4; cases h4
        · exact h2
      obtain ⟨T1, R1, s1, s2⟩ := Chain.first l1 l2 hC hind
      refine wpOp_mono (fun a' w' h' => ?_) (step_exec hI (hS i (by simp)) s1)
      have hset : ∀ k, (listed.setIfInBounds i true)[k]? = if i = k then some true else listed[k]? := by
        intro k
        rw [Array.getElem?_setIfInBounds]
        by_cases e : i = k
        · rw [if_pos e, if_pos e, if_pos (by omega)]
        · rw [if_neg e, if_neg e]
      have hni : i ∉ l1 ++ l2 := by
        intro hm
        rcases List.mem_append.1 hm with h | h
        · have := hpl.2.2 i h i (by simp); omega
        · have := (List.pairwise_cons.1 hpl.2.1).1 i h; omega
      refine ih (listed.setIfInBounds i true) (l1 ++ l2) _ T1 R1 a' w' (by simpa using hs) ?_ ?_ ?_ ?_ ?_ h' s2 ?_
      · simp only [List.length_append, List.length_cons] at hf ⊢; omega
      · intro k
        rw [hset]
        by_cases e : i = k
        · subst e
          rw [if_pos rfl]
          exact ⟨fun h => absurd h hni, fun h => by cases h⟩
        · rw [if_neg e, ← hL k]
          simp only [List.mem_append, List.mem_cons]
          constructor
          · rintro (h | h)
            · exact .inl h
            · exact .inr (.inr h)
          · rintro (h | h | h)
            · exact .inl h
            · exact absurd h.symm e
            · exact .inr h
      · rw [List.pairwise_append]
        exact ⟨hpl.1, (List.pairwise_cons.1 hpl.2.1).2, fun x hx y hy => hpl.2.2 x hx y (by simp [hy])⟩
      · rintro k hk (h | rfl)
        · refine hS k ?_ h
          rcases List.mem_append.1 hk with h | h <;> simp [h]
        · exact hni hk
      · intro j oj hj hoj d hd
        rw [hset] at hj ⊢
        by_cases e : i = d
        · rw [if_pos e]
        · rw [if_neg e]
          by_cases e2 : i = j
          · subst e2
            have : some o = some oj := ho.symm.trans hoj
            cases this
            exact hdeps d hd
          · rw [if_neg e2] at hj
            exact hcl j oj hj hoj d hd
      · intro S' a2 w2 hI2 hS2
        refine hq S' a2 w2 hI2 fun j hj => ?_
        rcases hS2 j hj with (h | h) | h
        · exact .inl h
        · exact .inr (by simp [h])
        · rcases List.mem_append.1 h with h | h <;> simp [h]
end Go.Ev
namespace Go.Ev
open Go Go.RowKit
variable {E : Env} {C0 : Cx}

def putT (T : List (Nat × V)) (d : Option Nat) (v : V) : List (Nat × V) :=
  match d with
  | some d => (d, v) :: T
  | none => T

def applyW : List (Nat × Root) → List (Nat × Option Root) → List (Nat × Root)
  | R, [] => R
  | R, (n, none) :: ws => applyW (dropR R n) ws
  | R, (n, some r) :: ws => applyW ((n, r) :: dropR R n) ws

theorem lookT_put (T : List (Nat × V)) (d : Option Nat) (v : V) : lookT (putT T d v) = putF (lookT T) d v := by
  cases d with
  | none => rfl
  | some d => funext t; simp only [putT, lookT, putF]

theorem lookR_drop (n : Nat) : ∀ (R : List (Nat × Root)) (m : Nat), lookR (dropR R n) m = if m = n then none else lookR R m
  | [], m => by simp [dropR, lookR]
  | (k, r) :: R, m => by
    simp only [dropR]
    by_cases e : k = n
    · rw [if_pos e, lookR_drop n R m]
      by_cases e2 : m = n
      · rw [if_pos e2, if_pos e2]
      · rw [if_neg e2, if_neg e2, lookR, if_neg (fun h => e2 (by omega))]
    · rw [if_neg e, lookR, lookR_drop n R m, lookR]
      by_cases e2 : k = m
      · rw [if_pos e2, if_pos e2, if_neg (fun h => e (by omega))]
      · rw [if_neg e2, if_neg e2]

theorem lookR_apply : ∀ (ws : List (Nat × Option Root)) (R : List (Nat × Root)), lookR (applyW R ws) = applyF (lookR R) ws
  | [], R => rfl
  | (n, none) :: ws, R => by
    rw [applyW, lookR_apply ws, applyF]
    congr 1
    funext m
    exact lookR_drop n R m
  | (n, some r) :: ws, R => by
    rw [applyW, lookR_apply ws, applyF]
    congr 1
    funext m
    rw [lookR, lookR_drop]
    by_cases e : n = m
    · rw [if_pos e, if_pos e.symm]
    · rw [if_neg e, if_neg (Ne.symm e), if_neg (Ne.symm e)]

/-- The operations of a region in their own order. -/
inductive Ch (E : Env) (ops : Array Oper) (base : Nat) : Nat → List Oper → List (Nat × V) → List (Nat × Root) → List (Nat × V) → List (Nat × Root) → List Lg → Prop
  | nil {i : Nat} {T R} : Ch E ops base i [] T R T R []
  | cons {i : Nat} {o : Oper} {l : List Oper} {T R T1 R1 T' R' lg v nm wr} (he : Eff E ops (base + 8 * i) o (lookT T) (lookR R) v nm wr) (hT : putT T o.dst v = T1) (hR : applyW R wr = R1) (hc : Ch E ops base (i + 1) l T1 R1 T' R' lg) :
      Ch E ops base i (o :: l) T R T' R' ((nm, wr) :: lg)

theorem Ch.chain {ops : Array Oper} {base : Nat} {lgs : List Lg} : ∀ (l : List Oper) (i : Nat) {T T' : List (Nat × V)} {R R' : List (Nat × Root)} {lg : List Lg}, ops.toList.drop i = l → lgs.drop i = lg → Ch E ops base i l T R T' R' lg →
    Chain E ops base (fun k => lgs.getD k ([], [])) (List.range' i l.length) (lookT T) (lookR R) (lookT T') (lookR R')
  | [], i, T, T', R, R', lg, _, _, h => by
    cases h with
    | nil => exact ⟨rfl, rfl⟩
  | o :: l, i, T, T', R, R', lg, hl, hg, h => by
    cases h with
    | cons he hT hR hc =>
      rename_i T1 R1 lg' v nm wr
      have ho : ops[i]? = some o := by
        have := congrArg (·[0]?) hl
        simpa using this
      have hgi : lgs.getD i ([], []) = (nm, wr) := by
        have := congrArg (·[0]?) hg
        simp only [List.getElem?_drop, Nat.add_zero, List.getElem?_cons_zero] at this
        rw [List.getD_eq_getElem?_getD, this]; rfl
      have h1 : ops.toList.drop (i + 1) = l := by
        rw [← List.drop_drop, hl]; rfl
      have h2 : lgs.drop (i + 1) = lg' := by
        rw [← List.drop_drop, hg]; rfl
      refine ⟨lookT T1, lookR R1, ⟨o, v, ho, ?_, ?_, ?_⟩, Ch.chain l (i + 1) h1 h2 hc⟩
      · dsimp only; rw [hgi]; exact he
      · rw [← hT, lookT_put]
      · dsimp only; rw [← hR, lookR_apply, hgi]

section rules
variable {K : Exit → St → Prop} {σ : St} {T T' : List (Nat × V)} {R R' : List (Nat × Root)} {b b' : Nat}

theorem inv_next {base n : Nat} {S : Nat → Prop} {T : Nat → V} {R : Rs} {a : Act} {w : World} (h : Inv E C0 base S T R a w) (hS : ∀ j, S j → j < n) : Inv E C0 (base + 8 * n) (fun _ => False) T R a w := by
  obtain ⟨C, h1, h2, h3, h4, h5, h6, h7, h8⟩ := h
  refine ⟨C, h1, h2, h3, h4, h5, h6, h7, fun k hk => ?_⟩
  left
  rcases h8 k hk with h9 | ⟨j, hj, h9, h10⟩
  · omega
  · have := hS j hj; omega

theorem ev_region {id : Nat} {ops : Array Oper} {d : Bool} {lgs : List Lg} (h : Ch E ops b 0 ops.toList T R T' R' lgs) (hd : d = true → cfB ops lgs = true) (hb : b + 8 * ops.size = b') (hk : K .normal ⟨T', R', b'⟩) : Ev E C0 (.region id ops d) K ⟨T, R, b⟩ := by
  intro a w hi
  have hc := Ch.chain (lgs := lgs) ops.toList 0 rfl rfl h
  rw [Array.length_toList] at hc
  cases d with
  | false =>
    refine wp_region ?_
    rw [List.range_eq_range']
    refine wpOps_chain (List.range' 0 ops.size) List.nodup_range' (fun _ _ h => h) hi hc (fun S' a' w' hI hS => ⟨_, hk, ?_⟩)
    subst hb
    refine inv_next hI fun j hj => ?_
    rcases hS j hj with h | h
    · exact h.elim
    · simp at h; exact h
  | true =>
    refine wp_region_any E.mo ?_
    obtain ⟨C, h1, h2, h3, h4, h5, h6, h7, h8⟩ := hi
    subst h1
    obtain ⟨q1, q2, q3⟩ := same_drew h2 { C.w with drawn := C.w.drawn + 1 } ⟨rfl, rfl, rfl, Nat.le_refl _⟩ rfl
    have hi' : Inv E C0 b (fun _ => False) (lookT T) (lookR R) a { C.w with drawn := C.w.drawn + 1 } := ⟨_, rfl, q1, h3, fun t ht => (h4 t ht).ext q2, h5, h6, h7.next q2 q3, h8⟩
    refine any_exec (hd rfl) ops.size (Array.replicate ops.size false) (List.range' 0 ops.size) (fun _ => False) _ _ a _ (by simp) (by simp) (fun i => ?_) List.pairwise_lt_range' (fun _ _ h => h) (fun j o hj => ?_) hi' hc (fun S' a' w' hI hS => ⟨_, hk, ?_⟩)
    · simp [Array.getElem?_replicate]
    · simp [Array.getElem?_replicate] at hj
    · subst hb
      refine inv_next hI fun j hj => ?_
      rcases hS j hj with h | h
      · exact h.elim
      · simp at h; exact h

variable {ops : Array Oper} {base i : Nat} {o : Oper} {l : List Oper} {lg : List Lg} {T1 : List (Nat × V)} {R1 : List (Nat × Root)} {v : V} {wr : List (Nat × Option Root)} {bi : Nat}

theorem want_none (hg : o.guard = none) {T : Nat → V} : WantOK E.nt ops o T true := by unfold WantOK; rw [hg]
theorem want_some {j d : Nat} {w t y : Bool} (hg : o.guard = some (j, w)) (hd : dstOf ops j = some d) (hn : d < E.nt) {T : Nat → V} (ht : T d = .val (.bool t)) (hy : y = (t == w)) : WantOK E.nt ops o T y := by
  unfold WantOK; rw [hg]; exact ⟨d, hd, hn, .inl ⟨t, ht, hy⟩⟩
theorem want_undef {j d : Nat} {w y : Bool} (hg : o.guard = some (j, w)) (hd : dstOf ops j = some d) (hn : d < E.nt) {T : Nat → V} (ht : T d = .val undef) (hy : y = false) : WantOK E.nt ops o T y := by
  unfold WantOK; rw [hg]; exact ⟨d, hd, hn, .inr ⟨ht, hy⟩⟩

theorem ch_act {c : Prop} (hw : WantOK E.nt ops o (lookT T) true) (hb : base + 8 * i = bi) (ha : act E.tab (lookO E.nt (lookT T)) (lookR R) bi o.op = some ⟨c, v, wr⟩) (hc : c) (hT : putT T o.dst v = T1) (hR : applyW R wr = R1)
    (hk : Ch E ops base (i + 1) l T1 R1 T' R' lg) : Ch E ops base i (o :: l) T R T' R' ((opNames (lookO E.nt (lookT T)) o.op, wr) :: lg) := by
  subst hb
  exact .cons (.inr (.inl ⟨hw, rfl, .inl ⟨_, .inl ha, hc, rfl, rfl⟩⟩)) hT hR hk

theorem ch_act2 {c : Prop} (hw : WantOK E.nt ops o (lookT T) true) (hb : base + 8 * i = bi) (ha : act2 E.tab (lookO E.nt (lookT T)) (lookR R) bi o.op = some ⟨c, v, wr⟩) (hc : c) (hT : putT T o.dst v = T1) (hR : applyW R wr = R1)
    (hk : Ch E ops base (i + 1) l T1 R1 T' R' lg) : Ch E ops base i (o :: l) T R T' R' ((opNames (lookO E.nt (lookT T)) o.op, wr) :: lg) := by
  subst hb
  exact .cons (.inr (.inl ⟨hw, rfl, .inl ⟨_, .inr (.inl ha), hc, rfl, rfl⟩⟩)) hT hR hk

theorem ch_skip (hw : WantOK E.nt ops o (lookT T) false) (hT : putT T o.dst (.val undef) = T1) (hk : Ch E ops base (i + 1) l T1 R T' R' lg) : Ch E ops base i (o :: l) T R T' R' (([], []) :: lg) :=
  .cons (.inl ⟨hw, rfl, rfl, rfl⟩) hT rfl hk

theorem ch_call {c : Call} {f : FuncId} {xs ys : List V} {gv : V} {rs : List Root} (hw : WantOK E.nt ops o (lookT T) true) (ho : o.op = .call c) (hb : base + 8 * i = bi) (hx : calleeOf (lookO E.nt (lookT T)) c = some (f, xs)) (hz : FrzA (lookR R) xs ys) (hG : Good E.P f ys gv rs) (hl : rs.length ≤ 8)
    (hv : shV bi gv = v) (hT : putT T o.dst v = T1) (hR : applyW R (newsL bi rs) = R1) (hk : Ch E ops base (i + 1) l T1 R1 T' R' lg) : Ch E ops base i (o :: l) T R T' R' ((opNames (lookO E.nt (lookT T)) o.op, newsL bi rs) :: lg) := by
  subst hb; subst hv
  exact .cons (.inr (.inl ⟨hw, rfl, .inr ⟨c, f, xs, ys, gv, rs, ho, hx, hz, hG, hl, rfl, rfl⟩⟩)) hT hR hk

theorem ch_callR {c : Call} {f : FuncId} {xs ys : List V} {gv : V} {rs : List Root} {rs' : List (Option Root)} (ns zs : List Nat) (hw : WantOK E.nt ops o (lookT T) true) (ho : o.op = .call c) (hb : base + 8 * i = bi) (hx : calleeOf (lookO E.nt (lookT T)) c = some (f, xs)) (hG : GoodR E.P f ys rs gv rs')
    (ha : ArgR (lookR R) ns zs xs ys) (hH : HandL (lookR R) ns ns.length ns rs) (hn : (ns.Nodup ∧ ∀ z, z ∈ zs → z ∉ ns) ∧ rs'.length - rs.length ≤ 8)
    (hv : rnV (upN ns bi) gv = v) (hT : putT T o.dst v = T1) (hR : applyW R (wrR ns zs bi rs') = R1) (hk : Ch E ops base (i + 1) l T1 R1 T' R' lg) : Ch E ops base i (o :: l) T R T' R' ((opNames (lookO E.nt (lookT T)) o.op ++ (ns ++ zs), wrR ns zs bi rs') :: lg) := by
  subst hb; subst hv
  exact .cons (.inr (.inr ⟨hw, c, f, xs, ys, gv, rs, rs', ns, zs, ho, hx, rfl, hG, hn.1.1, hH, hn.1.2, ha, hn.2, rfl, rfl⟩)) hT hR hk

/-- A region's operations from one on, and what is wanted behind them. -/
def Dr (E : Env) (ops : Array Oper) (base i : Nat) (l : List Oper) (K : List (Nat × V) → List (Nat × Root) → List Lg → Prop) (T : List (Nat × V)) (R : List (Nat × Root)) : Prop := ∃ T' R' lg, Ch E ops base i l T R T' R' lg ∧ K T' R' lg

variable {Kd : List (Nat × V) → List (Nat × Root) → List Lg → Prop}

theorem dr_nil (h : Kd T R []) : Dr E ops base i [] Kd T R := ⟨T, R, [], .nil, h⟩

theorem dr_act {c : Prop} (hw : WantOK E.nt ops o (lookT T) true) (hb : base + 8 * i = bi) (ha : act E.tab (lookO E.nt (lookT T)) (lookR R) bi o.op = some ⟨c, v, wr⟩) (hc : c) (hT : putT T o.dst v = T1) (hR : applyW R wr = R1)
    (hk : Dr E ops base (i + 1) l (fun T' R' lg => Kd T' R' ((opNames (lookO E.nt (lookT T)) o.op, wr) :: lg)) T1 R1) : Dr E ops base i (o :: l) Kd T R := by
  obtain ⟨T', R', lg, h1, h2⟩ := hk
  exact ⟨T', R', _, ch_act hw hb ha hc hT hR h1, h2⟩

theorem dr_act2 {c : Prop} (hw : WantOK E.nt ops o (lookT T) true) (hb : base + 8 * i = bi) (ha : act2 E.tab (lookO E.nt (lookT T)) (lookR R) bi o.op = some ⟨c, v, wr⟩) (hc : c) (hT : putT T o.dst v = T1) (hR : applyW R wr = R1)
    (hk : Dr E ops base (i + 1) l (fun T' R' lg => Kd T' R' ((opNames (lookO E.nt (lookT T)) o.op, wr) :: lg)) T1 R1) : Dr E ops base i (o :: l) Kd T R := by
  obtain ⟨T', R', lg, h1, h2⟩ := hk
  exact ⟨T', R', _, ch_act2 hw hb ha hc hT hR h1, h2⟩

theorem dr_actx (hw : WantOK E.nt ops o (lookT T) true) (hb : base + 8 * i = bi) (ha : ActX E.P E.tab (lookO E.nt (lookT T)) (lookR R) bi o ⟨True, v, wr⟩) (hT : putT T o.dst v = T1) (hR : applyW R wr = R1)
    (hk : Dr E ops base (i + 1) l (fun T' R' lg => Kd T' R' ((opNames (lookO E.nt (lookT T)) o.op, wr) :: lg)) T1 R1) : Dr E ops base i (o :: l) Kd T R := by
  obtain ⟨T', R', lg, h1, h2⟩ := hk
  subst hb
  exact ⟨T', R', _, .cons (.inr (.inl ⟨hw, rfl, .inl ⟨_, .inr (.inr (.inr ha)), trivial, rfl, rfl⟩⟩)) hT hR h1, h2⟩

theorem dr_pure {r : Value} (hw : WantOK E.nt ops o (lookT T) true) (hp : PureV E.P (lookO E.nt (lookT T)) o r) (hT : putT T o.dst (.val r) = T1)
    (hk : Dr E ops base (i + 1) l (fun T' R' lg => Kd T' R' ((opNames (lookO E.nt (lookT T)) o.op, []) :: lg)) T1 R) : Dr E ops base i (o :: l) Kd T R := by
  obtain ⟨T', R', lg, h1, h2⟩ := hk
  exact ⟨T', R', _, .cons (.inr (.inl ⟨hw, rfl, .inl ⟨_, .inr (.inr (.inl ⟨r, hp, rfl⟩)), trivial, rfl, rfl⟩⟩)) hT rfl h1, h2⟩

theorem dr_skip (hw : WantOK E.nt ops o (lookT T) false) (hT : putT T o.dst (.val undef) = T1) (hk : Dr E ops base (i + 1) l (fun T' R' lg => Kd T' R' (([], []) :: lg)) T1 R) : Dr E ops base i (o :: l) Kd T R := by
  obtain ⟨T', R', lg, h1, h2⟩ := hk
  exact ⟨T', R', _, ch_skip hw hT h1, h2⟩

theorem dr_call {c : Call} {f : FuncId} {xs ys : List V} {gv : V} {rs : List Root} (hw : WantOK E.nt ops o (lookT T) true) (ho : o.op = .call c) (hb : base + 8 * i = bi) (hx : calleeOf (lookO E.nt (lookT T)) c = some (f, xs)) (hz : FrzA (lookR R) xs ys) (hG : Good E.P f ys gv rs) (hl : rs.length ≤ 8)
    (hv : shV bi gv = v) (hT : putT T o.dst v = T1) (hR : applyW R (newsL bi rs) = R1) (hk : Dr E ops base (i + 1) l (fun T' R' lg => Kd T' R' ((opNames (lookO E.nt (lookT T)) o.op, newsL bi rs) :: lg)) T1 R1) : Dr E ops base i (o :: l) Kd T R := by
  obtain ⟨T', R', lg, h1, h2⟩ := hk
  exact ⟨T', R', _, ch_call hw ho hb hx hz hG hl hv hT hR h1, h2⟩

/-- A call that gets roots: ns by reference, zs are frozen from then on. -/
theorem dr_callR {c : Call} {f : FuncId} {xs ys : List V} {gv : V} {rs : List Root} {rs' : List (Option Root)} (ns zs : List Nat) (hw : WantOK E.nt ops o (lookT T) true) (ho : o.op = .call c) (hb : base + 8 * i = bi) (hx : calleeOf (lookO E.nt (lookT T)) c = some (f, xs)) (hG : GoodR E.P f ys rs gv rs')
    (ha : ArgR (lookR R) ns zs xs ys) (hH : HandL (lookR R) ns ns.length ns rs) (hn : (ns.Nodup ∧ ∀ z, z ∈ zs → z ∉ ns) ∧ rs'.length - rs.length ≤ 8)
    (hv : rnV (upN ns bi) gv = v) (hT : putT T o.dst v = T1) (hR : applyW R (wrR ns zs bi rs') = R1) (hk : Dr E ops base (i + 1) l (fun T' R' lg => Kd T' R' ((opNames (lookO E.nt (lookT T)) o.op ++ (ns ++ zs), wrR ns zs bi rs') :: lg)) T1 R1) : Dr E ops base i (o :: l) Kd T R := by
  obtain ⟨T', R', lg, h1, h2⟩ := hk
  exact ⟨T', R', _, ch_callR ns zs hw ho hb hx hG ha hH hn hv hT hR h1, h2⟩

theorem frzA_same {R : Rs} : ∀ {xs : List V}, xs.all noN = true → FrzA R xs xs
  | [], _ => .nil
  | x :: xs, h => by
    simp only [List.all_cons, Bool.and_eq_true] at h
    exact .cons (.cell (.same h.1)) (frzA_same h.2)

theorem dr_callF {c : Call} {f : FuncId} {xs : List V} {gv : V} {rs : List Root} (hw : WantOK E.nt ops o (lookT T) true) (ho : o.op = .call c) (hb : base + 8 * i = bi) (hx : calleeOf (lookO E.nt (lookT T)) c = some (f, xs)) (hn : xs.all noN = true) (hG : Good E.P f xs gv rs) (hl : rs.length ≤ 8)
    (hv : shV bi gv = v) (hT : putT T o.dst v = T1) (hR : applyW R (newsL bi rs) = R1) (hk : Dr E ops base (i + 1) l (fun T' R' lg => Kd T' R' ((opNames (lookO E.nt (lookT T)) o.op, newsL bi rs) :: lg)) T1 R1) : Dr E ops base i (o :: l) Kd T R :=
  dr_call hw ho hb hx (frzA_same hn) hG hl hv hT hR hk

theorem getD_mapL {α β : Type} {f : α → β} {ys : List α} {i : Nat} (d : α) (e : β) (h : i < ys.length) : (ys.map f).getD i e = f (ys.getD i d) := by
  simp [List.getD_eq_getElem?_getD, h]

/-- An element's address in a frozen list. -/
theorem dr_ix {α : Type} {g : α → List V} {ys : List α} (d : α) {t : TypeId} {x ix : Operand} {sz : Nat} {kd : IntKind} {k : Int} (hw : WantOK E.nt ops o (lookT T) true) (ho : o.op = .indexAddr t x ix) (hb : base + 8 * i = bi) (hx : lookO E.nt (lookT T) x = .list sz (ys.map g)) (hi : lookO E.nt (lookT T) ix = .val (.int kd k))
    (hs : slT E.tab t ∧ sz = (E.tab (E.tab t).elem).sz) (h01 : 0 ≤ k ∧ k < ys.length) (hT : putT T o.dst (.ept (g (ys.getD k.toNat d)) 0) = T1)
    (hk : Dr E ops base (i + 1) l (fun T' R' lg => Kd T' R' ((opNames (lookO E.nt (lookT T)) o.op, []) :: lg)) T1 R) : Dr E ops base i (o :: l) Kd T R := by
  refine dr_act hw hb (c := slT E.tab t ∧ (sz = (E.tab (E.tab t).elem).sz ∧ 0 ≤ k ∧ k < (ys.map g).length)) (v := .ept ((ys.map g).getD k.toNat []) 0) (wr := []) (by rw [ho]; simp only [act, hx, hi, indexAddrV, grd, Option.map_some]) ⟨hs.1, hs.2, h01.1, by rw [List.length_map]; exact h01.2⟩ ?_ rfl hk
  rw [getD_mapL d [] (by omega)]
  exact hT

theorem ev_rf {id : Nat} (hb : b + 8 * ops.size = b') (h : Dr E ops b 0 ops.toList (fun T' R' _ => K .normal ⟨T', R', b'⟩) T R) : Ev E C0 (.region id ops false) K ⟨T, R, b⟩ := by
  obtain ⟨T', R', lg, h1, h2⟩ := h
  exact ev_region h1 (fun h => by cases h) hb h2

theorem ev_reg {id : Nat} {d : Bool} (hb : b + 8 * ops.size = b') (h : Dr E ops b 0 ops.toList (fun T' R' lg => (d = true → cfB ops lg = true) ∧ K .normal ⟨T', R', b'⟩) T R) : Ev E C0 (.region id ops d) K ⟨T, R, b⟩ := by
  obtain ⟨T', R', lg, h1, h2, h3⟩ := h
  exact ev_region h1 h2 hb h3
end rules
end Go.Ev
namespace Go.Ev
open Go Go.RowKit
variable {E : Env} {C0 : Cx}

/-- Names told by a list, others as they are. -/
def lookN : List (Nat × Nat) → Nat → Nat
  | [], n => n
  | (k, v) :: l, n => if k = n then v else lookN l n

def chkT (ρ : Nat → Nat) (bd : Nat) (f : Nat → V) : List (Nat × V) → Prop
  | [] => True
  | (k, v) :: l => (f k = rnV ρ v ∧ okV false bd v = true) ∧ chkT ρ bd f l

def chkR (ρ : Nat → Nat) (bd : Nat) (f : Rs) : List (Nat × Root) → Prop
  | [] => True
  | (n, r) :: l => (n < bd ∧ ∃ r0, f (ρ n) = some r0 ∧ r0.ty = r.ty ∧ r0.sz = r.sz ∧ r0.els = r.els.map (·.map (rnC ρ)) ∧ r.els.all (·.all (okC false bd)) = true) ∧ chkR ρ bd f l

theorem chkT_spec {ρ : Nat → Nat} {bd : Nat} {f : Nat → V} : ∀ {l : List (Nat × V)}, chkT ρ bd f l → ∀ t, lookT l t = .any ∨ (f t = rnV ρ (lookT l t) ∧ okV false bd (lookT l t) = true)
  | [], _, t => .inl rfl
  | (k, v) :: l, h, t => by
    simp only [lookT]
    by_cases e : k = t
    · rw [if_pos e]; subst e; exact .inr h.1
    · rw [if_neg e]; exact chkT_spec h.2 t

theorem chkR_spec {ρ : Nat → Nat} {bd : Nat} {f : Rs} : ∀ {l : List (Nat × Root)}, chkR ρ bd f l → ∀ n r, lookR l n = some r → n < bd ∧ ∃ r0, f (ρ n) = some r0 ∧ r0.ty = r.ty ∧ r0.sz = r.sz ∧ r0.els = r.els.map (·.map (rnC ρ)) ∧ r.els.all (·.all (okC false bd)) = true
  | [], _, n, r, h => by cases h
  | (k, q) :: l, h, n, r, hr => by
    simp only [lookR] at hr
    by_cases e : k = n
    · rw [if_pos e] at hr; cases hr; subst e; exact h.1
    · rw [if_neg e] at hr; exact chkR_spec h.2 n r hr

theorem lookR_mem : ∀ {l : List (Nat × Root)} {n : Nat} {r : Root}, lookR l n = some r → n ∈ l.map (·.1)
  | (k, q) :: l, n, r, h => by
    simp only [lookR] at h
    by_cases e : k = n
    · simp [e]
    · rw [if_neg e] at h
      simp only [List.map_cons, List.mem_cons]
      exact .inr (lookR_mem h)

theorem nodup_inj {ρ : Nat → Nat} : ∀ {l : List Nat}, (l.map ρ).Nodup → ∀ n m, n ∈ l → m ∈ l → ρ n = ρ m → n = m
  | k :: l, h, n, m, hn, hm, e => by
    rw [List.map_cons, List.nodup_cons] at h
    rcases List.mem_cons.1 hn with hn1 | hn1
    · rcases List.mem_cons.1 hm with hm1 | hm1
      · rw [hn1, hm1]
      · exact absurd (List.mem_map.2 ⟨m, hm1, by rw [← e, hn1]⟩) h.1
    · rcases List.mem_cons.1 hm with hm1 | hm1
      · exact absurd (List.mem_map.2 ⟨n, hn1, by rw [e, hm1]⟩) h.1
      · exact nodup_inj h.2 n m hn1 hm1 e

/-- Names from outside stay. -/
theorem kp_ren {C : Cx} {ρ : Nat → Nat} {R' : Rs} {bd k0 : Nat} {pu : Bool} {F' : Nat → Prop} (h : RenR C ρ R' bd pu) (hF : Kp k0 C0 C) (hb : k0 ≤ bd) (hn : ∀ n r, R' n = some r → n < k0 → ρ n = n) (hF' : ∀ b, C0.F b → F' b) : Ext C0 (renCx C ρ R' bd F') := by
  refine ⟨hF.ex.fr, hF', fun n hn => Nat.lt_of_lt_of_le (hF.lt n hn) hb, fun p hp sz xs' hx => ?_⟩
  have hx' : getP R' p = some (sz, xs') := hx
  obtain ⟨r, hr⟩ := getP_some hx'
  have e := hn _ r hr (hF.lt _ hp)
  obtain ⟨xs0, k1, k2, _⟩ := ren_getP h hx'
  rw [e] at k1
  obtain ⟨xs, h1, h2, h3, h4⟩ := hF.ex.pl p hp sz xs0 k1
  refine ⟨xs, h1, by omega, ?_, h4⟩
  show C.io (ρ p.1, p.2) = _
  rw [e]; exact h3

/-- A state that knows less, under other names. -/
theorem weak_ren (ρ : List (Nat × Nat)) {T T' : List (Nat × V)} {R R' : List (Nat × Root)} {b b' : Nat} (hT : chkT (lookN ρ) b' (lookT T) T') (hR : chkR (lookN ρ) b' (lookR R) R') (hn : (R'.map fun p => lookN ρ p.1).Nodup) (hk : (decide (E.k0 ≤ b') && R'.all fun p => decide (E.k0 ≤ p.1) || decide (lookN ρ p.1 = p.1)) = true) : Weak E C0 ⟨T, R, b⟩ ⟨T', R', b'⟩ := by
  rintro a w ⟨C, rfl, hC, hCR, hTs, hsz, hd, hF, hA⟩
  have hren : RenR C (lookN ρ) (lookR R') b' false := by
    intro n r hr
    rw [hCR]
    exact chkR_spec hR n r hr
  obtain ⟨S1, S2⟩ := ren_sat (F' := C.F) hC hren (fun n m r r' h1 h2 e => nodup_inj (l := R'.map (·.1)) (by simpa [List.map_map, Function.comp_def] using hn) n m (lookR_mem h1) (lookR_mem h2) e) ⟨fun _ h => h, fun _ => rfl⟩
  refine ⟨renCx C (lookN ρ) (lookR R') b' C.F, rfl, S1, rfl, fun t ht => ?h1, hsz, hd, ⟨⟨hF.fr.os, hF.fr.tape, hF.fr.output, hF.fr.size, hF.fr.block, fun k hk => hF.fr.own k (S2 k hk), hF.fr.F⟩, ?h2, hF.lt⟩, fun n hn => .inl hn⟩
  case h1 =>
    rcases chkT_spec hT t with h | ⟨h1, h2⟩
    · show VR _ _ (lookT T' t)
      rw [h]; exact .fro (.any _)
    · have := hTs t ht
      show VR _ _ (lookT T' t)
      have hv : VR C (a.tmps.getD t undef) (rnV (lookN ρ) (lookT T' t)) := by rw [← h1]; exact this
      exact ren_V hren ⟨fun _ h => h, fun _ => rfl⟩ hv h2
  case h2 =>
    rw [Bool.and_eq_true, decide_eq_true_eq] at hk
    exact kp_ren hren hF hk.1 (fun n r hr hlt => by
      obtain ⟨p, hp, rfl⟩ := List.mem_map.1 (lookR_mem hr)
      have := List.all_eq_true.1 hk.2 p hp
      simp only [Bool.or_eq_true, decide_eq_true_eq] at this
      omega) hF.ex.F

/-- A pure cell of a root. -/
def pcell : V → Bool
  | .any => true
  | .val _ => true
  | .row _ xs => xs.all (·.all fun c => match c with | .any => true | .val _ => true | _ => false)
  | _ => false

inductive ResL (E : Env) (T : Nat → V) (R : Rs) : List ResultVar → List V → Prop
  | nil : ResL E T R [] []
  | tmp {t : Nat} {u : V} {l us} (hn : t < E.nt) (h : T t = u) (k : ResL E T R l us) : ResL E T R (.tmp t :: l) (u :: us)
  | cell {a t : Nat} {u : V} {c : Prop} {wr} {l us} (hn : a < E.nt) (hs : (E.tab t).sz ≠ 0) (h : loadV (E.tab t) R (T a) = some ⟨c, u, wr⟩) (hc : c) (hp : ∃ p i j, T a = .ptr p i j) (k : ResL E T R l us) : ResL E T R (.cell a t :: l) (u :: us)

def oneOf : List V → V
  | [x] => x
  | xs => .tup xs

def RootsL (R : Rs) : List Nat → List Root → Prop
  | [], [] => True
  | n :: ns, r :: rs => (R n = some r ∧ r.els.all (·.all pcell) = true) ∧ RootsL R ns rs
  | _, _ => False

/-- The function ends with these results. -/
structure RetOK (E : Env) (res : List ResultVar) (σ : St) (v : V) (rs : List Root) : Prop where
  ex : ∃ (ns : List Nat) (us : List V), ResL E (lookT σ.T) (lookR σ.R) res us ∧ oneOf us = rnV (fun k => ns.getD k 0) v ∧ ns.Nodup ∧ RootsL (lookR σ.R) ns rs ∧ okV true rs.length v = true

def retK (E : Env) (res : List ResultVar) (v : V) (rs : List Root) (e : Exit) (σ : St) : Prop :=
  match e with
  | .ret | .normal => RetOK E res σ v rs
  | _ => False

theorem rootsL_spec {R : Rs} : ∀ {ns : List Nat} {rs : List Root}, RootsL R ns rs → ns.length = rs.length ∧ ∀ (k : Nat) r, rs[k]? = some r → ∃ n, ns[k]? = some n ∧ R n = some r ∧ r.els.all (·.all pcell) = true
  | [], [], _ => ⟨rfl, fun k r h => by simp at h⟩
  | n :: ns, r :: rs, h => by
    obtain ⟨k1, k2⟩ := rootsL_spec h.2
    refine ⟨by simp [k1], fun k q hq => ?_⟩
    cases k with
    | zero => simp only [List.getElem?_cons_zero, Option.some.injEq] at hq; subst hq; exact ⟨n, rfl, h.1⟩
    | succ k => exact k2 k q (by simpa using hq)
  | [], _ :: _, h => h.elim
  | _ :: _, [], h => h.elim

theorem pcell_ok {bd : Nat} {ρ : Nat → Nat} {c : V} (h : pcell c = true) : okC true bd c = true ∧ rnC ρ c = c ∧ noNR c = true := by
  cases c with
  | row s xs =>
    refine ⟨?_, rfl, ?_⟩
    · simp only [okC]
      simp only [pcell] at h
      refine List.all_eq_true.2 fun x hx => List.all_eq_true.2 fun c hc => ?_
      have := List.all_eq_true.1 (List.all_eq_true.1 h x hx) c hc
      cases c <;> simp_all
    · simp only [noNR]
      simp only [pcell] at h
      refine List.all_eq_true.2 fun x hx => List.all_eq_true.2 fun c hc => ?_
      have := List.all_eq_true.1 (List.all_eq_true.1 h x hx) c hc
      cases c <;> simp_all [noN0]
  | any => exact ⟨rfl, rfl, rfl⟩
  | val u => exact ⟨rfl, rfl, rfl⟩
  | _ => simp [pcell] at h

theorem resL_run {C : Cx} (hC : Sat C) {a : Act} (hsz : a.tmps.size = E.nt) {T : Nat → V} (hT : ∀ t, t < E.nt → VR C (a.tmps.getD t undef) (T t)) : ∀ {res : List ResultVar} {us : List V}, ResL E T C.R res us →
    ∃ vs : List Value, (res.mapM (m := Sem) fun | .tmp t => pure (a.tmps.getD t undef) | .cell x t => do loadVar t (← asAddr (a.tmps.getD x undef))).run E.P C.w = .ok vs C.w ∧ vs.length = us.length ∧ ∀ (i : Nat) v u, vs[i]? = some v → us[i]? = some u → VR C v u := by
  intro res us h
  induction h with
  | nil => exact ⟨[], by simp, rfl, fun i v u h => by simp at h⟩
  | tmp hn h k ih =>
    obtain ⟨vs, h1, h2, h3⟩ := ih
    rename_i t u l us
    refine ⟨a.tmps.getD t undef :: vs, ?_, by simp [h2], fun i v u' hv hu => ?_⟩
    · rw [List.mapM_cons]
      simp only [Sem.run_bind, Sem.run_pure, Result.andThen_ok, h1]
    · cases i with
      | zero =>
        simp only [List.getElem?_cons_zero, Option.some.injEq] at hv hu
        subst hv; subst hu; rw [← h]; exact hT t hn
      | succ i => exact h3 i v u' (by simpa using hv) (by simpa using hu)
  | cell hn hs h hc hp k ih =>
    obtain ⟨vs, h1, h2, h3⟩ := ih
    rename_i x t u c wr l us
    obtain ⟨p, i0, j0, hpe⟩ := hp
    have hv0 := hT x hn
    obtain ⟨v'', q1, q2, _⟩ := load_run (P := E.P) (E.ok t hs) hC hv0 h hc
    rw [hpe] at hv0
    obtain ⟨ad, e2, _⟩ := hv0.ptr_inv
    refine ⟨v'' :: vs, ?_, by simp [h2], fun i v u' hv hu => ?_⟩
    · rw [List.mapM_cons]
      dsimp only
      rw [e2] at q1 ⊢
      simp only [Instr.loadAt, Instr.sureAddr, Sem.run_bind, Sem.run_pure, Result.andThen_ok] at q1
      have ha : (asAddr (.pointer (some ad))).run E.P C.w = .ok ad C.w := rfl
      simp only [Sem.run_bind, ha, Sem.run_pure, Result.andThen_ok, q1, h1]
    · cases i with
      | zero =>
        simp only [List.getElem?_cons_zero, Option.some.injEq] at hv hu
        subst hv; subst hu; exact q2
      | succ i => exact h3 i v u' (by simpa using hv) (by simpa using hu)

theorem res_one {C : Cx} (hC : Sat C) {a : Act} (hsz : a.tmps.size = E.nt) {T : Nat → V} (hT : ∀ t, t < E.nt → VR C (a.tmps.getD t undef) (T t)) {fn : Func} {us : List V} (h : ResL E T C.R fn.results.toList us) :
    ∃ vf, (results fn a.tmps).run E.P C.w = .ok vf C.w ∧ VR C vf (oneOf us) := by
  obtain ⟨vs, r1, r2, r3⟩ := resL_run hC hsz hT h
  have hlen : vs.length = us.length := r2
  have hm : (fn.results.mapM (m := Sem) fun | .tmp t => pure (a.tmps.getD t undef) | .cell x t => do loadVar t (← asAddr (a.tmps.getD x undef))).run E.P C.w = .ok vs.toArray C.w := by
    rw [Array.mapM_eq_mapM_toList]
    simp only [Sem.run_map, r1, Result.andThen_ok]
  have hres : results fn a.tmps = (do
      let vs ← fn.results.mapM (m := Sem) fun | .tmp t => pure (a.tmps.getD t undef) | .cell x t => do loadVar t (← asAddr (a.tmps.getD x undef))
      pure (if h : vs.size = 1 then vs[0] else .tuple vs)) := rfl
  rw [hres]
  cases us with
  | nil =>
    have : vs = [] := List.eq_nil_of_length_eq_zero (by simpa using hlen)
    subst this
    exact ⟨.tuple #[], by simp only [Sem.run_bind, hm, Result.andThen_ok]; rfl, .tup rfl (fun i v c h => by simp at h)⟩
  | cons u us =>
    cases us with
    | nil =>
      obtain ⟨v0, rfl⟩ : ∃ v0, vs = [v0] := by
        cases vs with
        | nil => simp at hlen
        | cons v0 r => cases r with
          | nil => exact ⟨v0, rfl⟩
          | cons => simp at hlen
      exact ⟨v0, by simp only [Sem.run_bind, hm, Result.andThen_ok]; rfl, r3 0 v0 u rfl rfl⟩
    | cons u2 us =>
      refine ⟨.tuple vs.toArray, ?_, .tup (by simpa using hlen) (fun i v c h1 h2 => r3 i v c (by simpa using h1) h2)⟩
      simp only [Sem.run_bind, hm, Result.andThen_ok]
      rw [dif_neg (by simp only [List.size_toArray, hlen, List.length_cons]; omega)]
      rfl

def argT : Nat → List V → List (Nat × V)
  | _, [] => []
  | n, x :: xs => (n, x) :: argT (n + 1) xs

theorem argT_look : ∀ (xs : List V) (n t : Nat), lookT (argT n xs) t = if n ≤ t then (xs[t - n]?).getD .any else .any
  | [], n, t => by simp [argT, lookT]
  | x :: xs, n, t => by
    simp only [argT, lookT]
    by_cases e : n = t
    · subst e; simp
    · rw [if_neg e, argT_look xs (n + 1) t]
      by_cases h : n + 1 ≤ t
      · rw [if_pos h, if_pos (by omega)]
        have : t - n = (t - (n + 1)) + 1 := by omega
        rw [this, List.getElem?_cons_succ]
      · rw [if_neg h, if_neg (by omega)]

/-- A function's contract, out of its code. -/
theorem good_of {f : FuncId} {fn : Func} {c : Code} {args : List V} {v : V} {rs : List Root} (hf : E.P.funcs[f]? = some fn) (hname : (fn.name == "runtime.NumGoroutine") = false) (hbody : fn.body = some c) (hnt : E.nt = fn.ntmps) (hla : args.length ≤ fn.ntmps)
    (h : ∀ C0, Ev E C0 c (retK E fn.results.toList v rs) ⟨argT 0 args, [], 0⟩) : Good E.P f args v rs := by
  refine ⟨⟨fn, hf, hname, by rw [hbody]; rfl⟩, fun w F vals hF hl hv => ?_⟩
  let C0 : Cx := { w := w, F := F, io := fun _ => none, R := fun _ => none, A := fun _ => False }
  have hact : ∀ p, ¬ Act? C0 p := fun p hp => by
    obtain ⟨x, e⟩ := Option.isSome_iff_exists.1 hp
    simp [C0, getP] at e
  have S0 : Sat C0 := ⟨fun p sz xs hp => absurd (by unfold Act?; rw [hp]; rfl) (hact p), fun p q g hp => absurd hp (hact p), fun p g hp => absurd hp (hact p), hF, fun n r hr => by cases hr⟩
  have own0 : ∀ k, ¬ Owned C0 k := by rintro k ⟨p, hp, _⟩; exact hact p hp
  refine calls_of_wp (fn := fn) (c := c) hf hbody ?_
  have hinv : InvS E C0 ⟨argT 0 args, [], 0⟩ { tmps := vals ++ Array.replicate (fn.ntmps - vals.size) undef, defers := [] } w := by
    refine ⟨C0, rfl, S0, by funext n; rfl, fun t ht => ?_, by simp; omega, rfl, ⟨.refl C0, .refl, fun n hn => hn.elim⟩, fun n hn => hn.elim⟩
    rw [argT_look, if_pos (Nat.zero_le _), Nat.sub_zero]
    by_cases hta : t < args.length
    · have e1 : args[t]? = some args[t] := List.getElem?_eq_getElem hta
      have e2 : vals[t]? = some (vals[t]'(by omega)) := Array.getElem?_eq_getElem _
      have e3 : (vals ++ Array.replicate (fn.ntmps - vals.size) undef).getD t undef = vals[t]'(by omega) := by
        rw [Array.getD_eq_getD_getElem?, Array.getElem?_append_left (by omega), e2]; rfl
      rw [e1, e3]
      exact .fro (hv t _ _ e2 e1)
    · have e1 : args[t]? = none := List.getElem?_eq_none (by omega)
      rw [e1]
      exact .fro (.any _)
  refine wp_mono (h C0 _ _ hinv) ?_
  rintro e a' w' ⟨σ', hk, C, rfl, hC, hCR, hTs, hsz, hd, hFr, hA⟩
  have fin : RetOK E fn.results.toList σ' v rs → ∃ v', (results fn a'.tmps).run E.P C.w = .ok v' C.w ∧ ∃ v'' C', Ending.returned v' = .returned v'' ∧ C'.w = C.w ∧ Sat C' ∧ (C'.R = fun n => rs[n]?) ∧ VR C' v'' v ∧ Below w.heap.size w C.w ∧ (∀ k, C'.F k → w.heap.size ≤ k) ∧ (∀ k, Owned C' k → w.heap.size ≤ k) ∧
      (∀ k, C'.A k → k < rs.length) ∧ ∀ r, r ∈ rs → r.els.all (·.all noNR) = true := by
    rintro ⟨ns, us, k1, k2, k3, k4, k5⟩
    rw [← hCR] at k1 k4
    obtain ⟨q1, q2⟩ := rootsL_spec k4
    have hren : RenR C (fun k => ns.getD k 0) (fun n => rs[n]?) rs.length true := by
      intro n r hr
      obtain ⟨m, m1, m2, m3⟩ := q2 n r hr
      have m4 : ns.getD n 0 = m := by rw [List.getD_eq_getElem?_getD, m1]; rfl
      refine ⟨(List.getElem?_eq_some_iff.1 hr).1, r, by dsimp only; rw [m4]; exact m2, rfl, rfl, ?_, ?_⟩
      · have : r.els.map (·.map (rnC fun k => ns.getD k 0)) = r.els.map id := List.map_congr_left fun x hx => by
          have : x.map (rnC fun k => ns.getD k 0) = x.map id := List.map_congr_left fun c hc => (pcell_ok (bd := 0) (List.all_eq_true.1 (List.all_eq_true.1 m3 x hx) c hc)).2.1
          rw [this]; simp
        rw [this]; simp
      · exact List.all_eq_true.2 fun x hx => List.all_eq_true.2 fun c hc => (pcell_ok (ρ := id) (List.all_eq_true.1 (List.all_eq_true.1 m3 x hx) c hc)).1
    have hF' : (∀ b, (fun k => C.F k ∧ w.heap.size ≤ k) b → C.F b) ∧ (true = false → (fun k => C.F k ∧ w.heap.size ≤ k) = C.F) := ⟨fun _ h => h.1, fun h => by cases h⟩
    have hinj : ∀ n m r r', (fun n => rs[n]?) n = some r → (fun n => rs[n]?) m = some r' → (fun k => ns.getD k 0) n = (fun k => ns.getD k 0) m → n = m := by
      intro n m r r' h1 h2 e
      obtain ⟨a, a1, _⟩ := q2 n r h1
      obtain ⟨b, b1, _⟩ := q2 m r' h2
      have e1 : ns.getD n 0 = a := by rw [List.getD_eq_getElem?_getD, a1]; rfl
      have e2 : ns.getD m 0 = b := by rw [List.getD_eq_getElem?_getD, b1]; rfl
      simp only [e1, e2] at e
      subst e
      obtain ⟨l1, g1⟩ := List.getElem?_eq_some_iff.1 a1
      obtain ⟨l2, g2⟩ := List.getElem?_eq_some_iff.1 b1
      exact (List.getElem_inj k3).1 (g1.trans g2.symm)
    obtain ⟨S1, S2⟩ := ren_sat hC hren hinj hF'
    obtain ⟨vf, hv1, hv2⟩ := res_one hC hsz hTs k1
    rw [k2] at hv2
    refine ⟨vf, hv1, vf, renCx C (fun k => ns.getD k 0) (fun n => rs[n]?) rs.length (fun k => C.F k ∧ w.heap.size ≤ k), rfl, rfl, S1, rfl, ren_V hren hF' hv2 k5, ⟨hFr.fr.os, hFr.fr.tape, hFr.fr.output, hFr.fr.size, fun k hk => hFr.fr.block k hk (own0 k)⟩, fun k hk => hk.2, fun k hk => ?_, fun k hk => hk, fun r hr => ?_⟩
    · rcases hFr.fr.own k (S2 k hk) with h1 | h1
      · exact absurd h1 (own0 k)
      · exact h1
    · obtain ⟨k, hk⟩ := List.getElem?_of_mem hr
      obtain ⟨m, m1, m2, m3⟩ := q2 k r hk
      exact List.all_eq_true.2 fun x hx => List.all_eq_true.2 fun c hc => (pcell_ok (bd := 0) (ρ := id) (List.all_eq_true.1 (List.all_eq_true.1 m3 x hx) c hc)).2.2
  cases e with
  | normal =>
    obtain ⟨v', h1, v'', C', h2⟩ := fin hk
    exact ⟨hd, v', h1, v'', C', h2⟩
  | ret =>
    obtain ⟨v', h1, v'', C', h2⟩ := fin hk
    exact ⟨hd, v', h1, v'', C', h2⟩
  | _ => exact hk.elim
end Go.Ev
namespace Go.Ev
open Go Go.RowKit
variable {E : Env} {C0 : Cx}

/-- The caller's names for the names at the end: those from outside stay. -/
def dnN (k0 : Nat) (ns : List Nat) (i : Nat) : Nat := if i < k0 then i else ns.getD (i - k0) 0

def RootsR (R : Rs) (ρ : Nat → Nat) : Nat → List (Option Root) → Prop
  | _, [] => True
  | i, none :: l => RootsR R ρ (i + 1) l
  | i, some r :: l => (∃ r0, R (ρ i) = some r0 ∧ r0.ty = r.ty ∧ r0.sz = r.sz ∧ r0.els = r.els.map (·.map (rnC ρ))) ∧ RootsR R ρ (i + 1) l

theorem rootsR_spec {R : Rs} {ρ : Nat → Nat} : ∀ {l : List (Option Root)} {i : Nat}, RootsR R ρ i l → ∀ k r, l.getD k none = some r → k < l.length ∧ ∃ r0, R (ρ (i + k)) = some r0 ∧ r0.ty = r.ty ∧ r0.sz = r.sz ∧ r0.els = r.els.map (·.map (rnC ρ))
  | [], i, _, k, r, h => by simp at h
  | none :: l, i, hR, k, r, h => by
    cases k with
    | zero => simp at h
    | succ k =>
      obtain ⟨k1, k2⟩ := rootsR_spec (l := l) hR k r (by simpa using h)
      exact ⟨by simpa using k1, by rw [show i + (k + 1) = i + 1 + k by omega]; exact k2⟩
  | some q :: l, i, hR, k, r, h => by
    cases k with
    | zero => simp at h; subst h; exact ⟨by simp, hR.1⟩
    | succ k =>
      obtain ⟨k1, k2⟩ := rootsR_spec (l := l) hR.2 k r (by simpa using h)
      exact ⟨by simpa using k1, by rw [show i + (k + 1) = i + 1 + k by omega]; exact k2⟩

/-- The function ends with these results, the roots from outside so. -/
def RetR (E : Env) (res : List ResultVar) (σ : St) (v : V) (rs' : List (Option Root)) : Prop :=
  ∃ (ns : List Nat) (us : List V), ResL E (lookT σ.T) (lookR σ.R) res us ∧ oneOf us = rnV (dnN E.k0 ns) v ∧ ns.Nodup ∧ (ns.all fun n => decide (E.k0 ≤ n)) = true ∧ E.k0 + ns.length = rs'.length ∧ RootsR (lookR σ.R) (dnN E.k0 ns) 0 rs'

def retKR (E : Env) (res : List ResultVar) (v : V) (rs' : List (Option Root)) (e : Exit) (σ : St) : Prop :=
  match e with
  | .ret | .normal => RetR E res σ v rs'
  | _ => False

def rsT : Nat → List Root → List (Nat × Root)
  | _, [] => []
  | n, r :: rs => (n, r) :: rsT (n + 1) rs

theorem rsT_look : ∀ (rs : List Root) (n t : Nat), lookR (rsT n rs) t = if n ≤ t then rs[t - n]? else none
  | [], n, t => by simp [rsT, lookR]
  | r :: rs, n, t => by
    simp only [rsT, lookR]
    by_cases e : n = t
    · subst e; simp
    · rw [if_neg e, rsT_look rs (n + 1) t]
      by_cases h : n + 1 ≤ t
      · rw [if_pos h, if_pos (by omega)]
        have : t - n = (t - (n + 1)) + 1 := by omega
        rw [this, List.getElem?_cons_succ]
      · rw [if_neg h, if_neg (by omega)]

def okRs (bd : Nat) : List (Option Root) → Prop
  | [] => True
  | none :: l => okRs bd l
  | some r :: l => r.els.all (·.all (okC false bd)) = true ∧ okRs bd l

theorem okRs_spec {bd : Nat} : ∀ {l : List (Option Root)}, okRs bd l → ∀ i r, l.getD i none = some r → r.els.all (·.all (okC false bd)) = true
  | [], _, i, r, h => by simp at h
  | none :: l, hl, i, r, h => by
    cases i with
    | zero => simp at h
    | succ i => exact okRs_spec (l := l) hl i r (by simpa using h)
  | some q :: l, hl, i, r, h => by
    cases i with
    | zero => simp at h; subst h; exact hl.1
    | succ i => exact okRs_spec hl.2 i r (by simpa using h)

/-- A contract by reference, out of the code. -/
theorem goodR_of {f : FuncId} {fn : Func} {c : Code} {args : List V} {v : V} {rs : List Root} {rs' : List (Option Root)} (hf : E.P.funcs[f]? = some fn) (hname : (fn.name == "runtime.NumGoroutine") = false) (hbody : fn.body = some c) (hnt : E.nt = fn.ntmps) (hla : args.length ≤ fn.ntmps)
    (hk : E.k0 = rs.length ∧ rs.length ≤ rs'.length) (ok1 : okV false rs'.length v = true) (ok2 : okRs rs'.length rs')
    (h : ∀ C0, Ev E C0 c (retKR E fn.results.toList v rs') ⟨argT 0 args, rsT 0 rs, rs.length⟩) : GoodR E.P f args rs v rs' := by
  refine ⟨⟨fn, hf, hname, by rw [hbody]; rfl⟩, hk.2, ok1, okRs_spec ok2, fun C0 vals S0 hR0 hA0 hl hv => ?_⟩
  refine calls_of_wp (fn := fn) (c := c) hf hbody ?_
  have hinv : InvS E C0 ⟨argT 0 args, rsT 0 rs, rs.length⟩ { tmps := vals ++ Array.replicate (fn.ntmps - vals.size) undef, defers := [] } C0.w := by
    refine ⟨C0, rfl, S0, ?_, fun t ht => ?_, by simp; omega, rfl, ⟨.refl C0, .refl, fun n hn => by rw [hk.1]; exact hA0 n hn⟩, fun n hn => .inl (hA0 n hn)⟩
    · rw [hR0]; funext n; rw [rsT_look, if_pos (Nat.zero_le _), Nat.sub_zero]
    rw [argT_look, if_pos (Nat.zero_le _), Nat.sub_zero]
    by_cases hta : t < args.length
    · have e1 : args[t]? = some args[t] := List.getElem?_eq_getElem hta
      have e2 : vals[t]? = some (vals[t]'(by omega)) := Array.getElem?_eq_getElem _
      have e3 : (vals ++ Array.replicate (fn.ntmps - vals.size) undef).getD t undef = vals[t]'(by omega) := by
        rw [Array.getD_eq_getD_getElem?, Array.getElem?_append_left (by omega), e2]; rfl
      rw [e1, e3]
      exact hv t _ _ e2 e1
    · have e1 : args[t]? = none := List.getElem?_eq_none (by omega)
      rw [e1]
      exact .fro (.any _)
  refine wp_mono (h C0 _ _ hinv) ?_
  rintro e a' w' ⟨σ', hq, C, rfl, hC, hCR, hTs, hsz, hd, hKp, hA⟩
  have fin : RetR E fn.results.toList σ' v rs' → ∃ v', (results fn a'.tmps).run E.P C.w = .ok v' C.w ∧ ∃ v'' C', Ending.returned v' = .returned v'' ∧ C'.w = C.w ∧ Sat C' ∧ Ext C0 C' ∧ Fr C0 C' ∧ (C'.R = fun n => rs'.getD n none) ∧ VR C' v'' v ∧ ∀ n, C'.A n → n < rs'.length := by
    rintro ⟨ns, us, k1, k2, k3, k4, k5, k6⟩
    rw [← hCR] at k1 k6
    obtain ⟨vf, hv1, hv2⟩ := res_one hC hsz hTs k1
    have q := rootsR_spec k6
    have hren : RenR C (dnN E.k0 ns) (fun n => rs'.getD n none) rs'.length false := by
      intro n r hr
      obtain ⟨h1, r0, h2, h3, h4, h5⟩ := q n r hr
      rw [Nat.zero_add] at h2
      exact ⟨h1, r0, h2, h3, h4, h5, okRs_spec ok2 n r hr⟩
    have hns : ∀ i, i < ns.length → E.k0 ≤ ns.getD i 0 := by
      intro i hi
      have := List.all_eq_true.1 k4 (ns.getD i 0) (by rw [List.getD_eq_getElem?_getD, List.getElem?_eq_getElem hi]; exact List.getElem_mem hi)
      simpa using this
    have hinj : ∀ n m r r', (fun n => rs'.getD n none) n = some r → (fun n => rs'.getD n none) m = some r' → dnN E.k0 ns n = dnN E.k0 ns m → n = m := by
      intro n m r r' h1 h2 e
      have l1 := (q n r h1).1
      have l2 := (q m r' h2).1
      simp only [dnN] at e
      by_cases c1 : n < E.k0
      · rw [if_pos c1] at e
        by_cases c2 : m < E.k0
        · rw [if_pos c2] at e; exact e
        · rw [if_neg c2] at e
          have := hns (m - E.k0) (by omega); omega
      · rw [if_neg c1] at e
        by_cases c2 : m < E.k0
        · rw [if_pos c2] at e
          have := hns (n - E.k0) (by omega); omega
        · rw [if_neg c2] at e
          rw [List.getD_eq_getElem?_getD, List.getD_eq_getElem?_getD, List.getElem?_eq_getElem (by omega), List.getElem?_eq_getElem (by omega)] at e
          have := (List.getElem_inj k3).1 e
          omega
    obtain ⟨S1, S2⟩ := ren_sat (F' := C.F) hC hren hinj ⟨fun _ h => h, fun _ => rfl⟩
    have hx := kp_ren (F' := C.F) hren hKp (by rw [hk.1]; exact hk.2) (fun n r _ hn => by simp only [dnN]; rw [if_pos hn]) hKp.ex.F
    rw [k2] at hv2
    refine ⟨vf, hv1, vf, renCx C (dnN E.k0 ns) (fun n => rs'.getD n none) rs'.length C.F, rfl, rfl, S1, hx, ⟨hKp.fr.os, hKp.fr.tape, hKp.fr.output, hKp.fr.size, hKp.fr.block, fun k hk => hKp.fr.own k (S2 k hk), hKp.fr.F⟩, rfl, ren_V hren ⟨fun _ h => h, fun _ => rfl⟩ hv2 ok1, fun n hn => hn⟩
  cases e with
  | normal =>
    obtain ⟨v', h1, v'', C', h2⟩ := fin hq
    exact ⟨hd, v', h1, v'', C', h2⟩
  | ret =>
    obtain ⟨v', h1, v'', C', h2⟩ := fin hq
    exact ⟨hd, v', h1, v'', C', h2⟩
  | _ => exact hq.elim
end Go.Ev
namespace Go.Ev
open Go Go.RowKit
variable {E : Env} {C0 C : Cx}

/-- A root taken into a cell of another as its row: under a new name. -/
def absR (r q : Root) (i j : Nat) : Root := { r with els := r.els.set i ((r.els.getD i []).set j (.row q.sz q.els)) }
def absPl (C : Cx) (n m i j : Nat) (s : Option (Nat × Nat)) : Option Nat := if s = some (i, j) then C.io (m, none) else C.io (n, s)

theorem abs_cell {r q : Root} {i j a : Nat} {x y : List V} (hx : r.els[i]? = some x) {c : Nat} {d : V} (h1 : (absR r q i j).els[a]? = some y) (h2 : y[c]? = some d) :
    (a = i ∧ c = j ∧ d = .row q.sz q.els ∧ c < x.length) ∨ (¬ (a = i ∧ c = j) ∧ ∃ z, r.els[a]? = some z ∧ z[c]? = some d) := by
  simp only [absR, getD_of_get hx] at h1
  rcases set_get h1 with ⟨rfl, rfl⟩ | ⟨e, h1⟩
  · rcases set_get h2 with ⟨rfl, rfl⟩ | ⟨e, h2⟩
    · have := (List.getElem?_eq_some_iff.1 h2).1
      rw [List.length_set] at this
      exact .inl ⟨rfl, rfl, rfl, this⟩
    · exact .inr ⟨fun h => e h.2, _, hx, h2⟩
  · exact .inr ⟨fun h => e h.1, _, h1, h2⟩

theorem abs_ok (hC : Sat C) {n m i j k b : Nat} {r q : Root} {x : List V} (hn : C.R n = some r) (hm : C.R m = some q) (hne : n ≠ m) (hx : r.els[i]? = some x) (hj : x[j]? = some (.ref (m, none) 0 k)) (hk : k = q.els.length) (hq : q.els.all (·.all noN0) = true) (hb : ¬ C.A b) :
    ∃ C', C'.w = C.w ∧ Sat C' ∧ Ext C C' ∧ Fr C C' ∧ C'.F = C.F ∧ (C'.R = fun y => if y = b then some (absR r q i j) else if y ∈ [n, m] then none else C.R y) ∧ (∀ y, C'.A y → C.A y ∨ y = b) ∧
      (∀ v off len, VR C v (.ref (n, none) off len) → VR C' v (.ref (b, none) off len)) ∧ ∀ v a c, VR C v (.ptr (n, none) a c) → VR C' v (.ptr (b, none) a c) := by
  let pl := absPl C n m i j
  let C' := mkCx C C.w [n, m] b (absR r q i j) pl
  have hRb : C'.R b = some (absR r q i j) := if_pos rfl
  have hio : ∀ s, C'.io (b, s) = pl s := fun s => if_pos rfl
  have an : ∀ s, (getP C.R (n, s)).isSome → Act? C (n, s) := fun s h => h
  have gn : getP C.R (n, none) = some (r.sz, r.els) := act_of hn
  have gm : getP C.R (m, none) = some (q.sz, q.els) := act_of hm
  have noij : getP C.R (n, some (i, j)) = none := by
    simp only [getP, hn, getD_of_get hx, getD_of_get hj]
  have hlen : (absR r q i j).els.length = r.els.length := by simp [absR]
  -- the new places
  have new : ∀ s sz xs, getP C'.R (b, s) = some (sz, xs) → (s = some (i, j) ∧ sz = q.sz ∧ xs = q.els) ∨ (s ≠ some (i, j) ∧ ∃ ys, getP C.R (n, s) = some (sz, ys) ∧ ys.length = xs.length ∧ (s ≠ none → ys = xs)) := by
    intro s sz xs h
    cases s with
    | none =>
      rw [act_of hRb] at h
      simp only [Option.some.injEq, Prod.mk.injEq] at h
      obtain ⟨rfl, rfl⟩ := h
      exact .inr ⟨by simp, r.els, gn, hlen.symm, fun h => absurd rfl h⟩
    | some ac =>
      obtain ⟨a, c⟩ := ac
      obtain ⟨y, h1, h2⟩ := getP_row hRb h
      rcases abs_cell hx h1 h2 with ⟨rfl, rfl, e, _⟩ | ⟨hne', z, e1, e2⟩
      · simp only [V.row.injEq] at e
        exact .inl ⟨rfl, e.1, e.2⟩
      · exact .inr ⟨fun e => by simp only [Option.some.injEq, Prod.mk.injEq] at e; exact hne' e, xs, getP_cell hn e1 e2, rfl, fun _ => rfl⟩
  have src : ∀ s, Act? C' (b, s) → ∃ p : Pl, Act? C p ∧ (p.1 ∈ [n, m]) ∧ pl s = C.io p ∧ (if s = some (i, j) then p = (m, none) else p = (n, s)) := by
    intro s h
    obtain ⟨⟨sz, xs⟩, e⟩ := Option.isSome_iff_exists.1 h
    rcases new s sz xs e with ⟨rfl, _, _⟩ | ⟨hs, ys, h1, _⟩
    · exact ⟨(m, none), by unfold Act?; rw [gm]; rfl, by simp, if_pos rfl, by rw [if_pos rfl]⟩
    · exact ⟨(n, s), by unfold Act?; rw [h1]; rfl, by simp, if_neg hs, by rw [if_neg hs]⟩
  have slx : ∀ s off len a cap, s ≠ some (i, j) → (∀ sz xs, getP C.R (n, s) = some (sz, xs) → SlAt C (n, s) sz xs a off len cap) → ∀ sz xs, getP C'.R (b, s) = some (sz, xs) → SlAt C' (b, s) sz xs a off len cap := by
    intro s off len a cap hs h sz xs hg
    rcases new s sz xs hg with ⟨e, _⟩ | ⟨_, ys, h1, h2, _⟩
    · exact absurd e hs
    · obtain ⟨o1, o2, o3, o4, o5⟩ := h sz ys h1
      have e : C'.io (b, s) = C.io (n, s) := (hio s).trans (if_neg hs)
      exact ⟨by omega, o2, o3, fun h => o4 (e ▸ h), fun g hg => o5 g (e ▸ hg)⟩
  obtain ⟨S1, S2, S3⟩ := mk_sat (D := [n, m]) (r := absR r q i j) (pl := pl) hC hb ⟨rfl, rfl, rfl, Nat.le_refl _⟩ (fun _ _ _ => rfl)
    (fun he s sz xs hg => by
      rcases new s sz xs hg with ⟨rfl, rfl, rfl⟩ | ⟨hs, ys, h1, h2, h3⟩
      · obtain ⟨k1, k2, k3⟩ := hC.pl _ _ _ gm
        have e : C'.io (b, some (i, j)) = C.io (m, none) := (hio _).trans (if_pos rfl)
        refine ⟨k1, fun h => k2 (e ▸ h), fun g hgi => ?_⟩
        obtain ⟨cs, ty, m1, m2, m3, m4⟩ := k3 g (e ▸ hgi)
        refine ⟨cs, ty, m1, fun h => by simp at h, m3, fun a y c d h1 h2 => ?_⟩
        obtain ⟨v, n1, n2, n3⟩ := m4 a y c d h1 h2
        have hd := List.all_eq_true.1 (List.all_eq_true.1 hq y (List.mem_of_getElem? h1)) d (List.mem_of_getElem? h2)
        refine ⟨v, n1, n2, ?_⟩
        cases d <;> first | exact VR.ext he n3 | simp [noN0] at hd
      · obtain ⟨k1, k2, k3⟩ := hC.pl _ _ _ h1
        have e : C'.io (b, s) = C.io (n, s) := (hio s).trans (if_neg hs)
        cases s with
        | some ac =>
          obtain rfl := h3 (by simp)
          refine ⟨k1, fun h => k2 (e ▸ h), fun g hgi => ?_⟩
          obtain ⟨cs, ty, m1, m2, m3, m4⟩ := k3 g (e ▸ hgi)
          refine ⟨cs, ty, m1, fun h => by simp at h, m3, fun a y c d h1' h2' => ?_⟩
          obtain ⟨v, n1, n2, n3⟩ := m4 a y c d h1' h2'
          refine ⟨v, n1, n2, ?_⟩
          cases d <;> first | exact VR.ext he n3 | exact absurd n3.1 (by simp)
        | none =>
          rw [gn] at h1
          simp only [Option.some.injEq, Prod.mk.injEq] at h1
          obtain ⟨rfl, rfl⟩ := h1
          have hg' := hg
          rw [show getP C'.R (b, none) = some (_, _) from act_of hRb] at hg'
          simp only [Option.some.injEq, Prod.mk.injEq] at hg'
          obtain ⟨_, rfl⟩ := hg'
          have hxl := k1 x (List.mem_of_getElem? hx)
          refine ⟨fun y hy => ?_, fun h => by have := k2 (e ▸ h); rw [this] at hx; simp at hx, fun g hgi => ?_⟩
          · simp only [absR, getD_of_get hx] at hy
            rcases List.mem_or_eq_of_mem_set hy with h | h
            · exact k1 y h
            · subst h; rw [List.length_set]; exact hxl
          · obtain ⟨cs, ty, m1, m2, m3, m4⟩ := k3 g (e ▸ hgi)
            refine ⟨cs, ty, m1, fun _ r' hr' => ?_, by rw [hlen]; exact m3, fun a y c d h1' h2' => ?_⟩
            · have : r' = absR r q i j := Option.some.inj (hr'.symm.trans hRb)
              subst this
              exact m2 rfl r hn
            · rcases abs_cell hx h1' h2' with ⟨rfl, rfl, rfl, _⟩ | ⟨hne', z, e1, e2⟩
              · obtain ⟨v, n1, n2, n3⟩ := m4 _ x _ _ hx hj
                refine ⟨v, n1, n2, rfl, ?_⟩
                have n3 : VR C v (.ref (m, none) 0 k) := n3
                obtain ⟨a', cap, rfl, hA, hsl⟩ := n3.ref_inv
                rw [← hk]
                refine .ref (.inr rfl) (fun sz' xs' hg2 => ?_)
                rcases new _ sz' xs' hg2 with ⟨_, rfl, rfl⟩ | ⟨h, _⟩
                · obtain ⟨o1, o2, o3, o4, o5⟩ := hsl _ _ gm
                  have e' : C'.io (b, some (a, c)) = C.io (m, none) := (hio _).trans (if_pos rfl)
                  exact ⟨o1, o2, o3, fun h => o4 (e' ▸ h), fun g hg => by
                    obtain ⟨p1, p2⟩ := o5 g (e' ▸ hg)
                    exact ⟨p1, p2⟩⟩
                · exact absurd rfl h
              · obtain ⟨v, n1, n2, n3⟩ := m4 a z c d e1 e2
                refine ⟨v, n1, n2, ?_⟩
                cases d with
                | row s us =>
                  obtain ⟨n4, n5⟩ := n3
                  obtain ⟨a', cap, rfl, hA, hsl⟩ := n5.ref_inv
                  exact ⟨rfl, .ref (.inr rfl) (slx _ _ _ _ _ (fun e => by simp only [Option.some.injEq, Prod.mk.injEq] at e; exact hne' e) hsl)⟩
                | _ => exact VR.ext he n3)
    (fun s t g hs ht h1 h2 => by
      obtain ⟨p, p1, p2, p3, p4⟩ := src s hs
      obtain ⟨p', q1, q2, q3, q4⟩ := src t ht
      have := hC.inj p p' g p1 q1 (p3 ▸ h1) (q3 ▸ h2)
      subst this
      by_cases e1 : s = some (i, j)
      · by_cases e2 : t = some (i, j)
        · rw [e1, e2]
        · rw [if_pos e1] at p4; rw [if_neg e2] at q4
          rw [p4] at q4; simp only [Prod.mk.injEq] at q4; exact absurd q4.1.symm hne
      · rw [if_neg e1] at p4
        by_cases e2 : t = some (i, j)
        · rw [if_pos e2] at q4
          rw [p4] at q4; simp only [Prod.mk.injEq] at q4; exact absurd q4.1 hne
        · rw [if_neg e2] at q4
          rw [p4] at q4; simp only [Prod.mk.injEq] at q4; exact q4.2)
    (fun s g hs h1 => by
      obtain ⟨p, p1, p2, p3, _⟩ := src s hs
      exact .inr ⟨p, p1, p2, p3 ▸ h1⟩)
  refine ⟨C', rfl, S1, S2, S3, rfl, rfl, fun y hy => hy, fun v off len hv => ?_, fun v a c hv => ?_⟩
  · obtain ⟨a', cap, rfl, hA, hsl⟩ := hv.ref_inv
    exact .ref (.inr rfl) (slx _ _ _ _ _ (by simp) hsl)
  · obtain ⟨ad, rfl, hA, hp⟩ := hv.ptr_inv
    refine .ptr (.inr rfl) (fun sz xs hg => ?_)
    rcases new _ sz xs hg with ⟨e, _⟩ | ⟨_, ys, h1, _⟩
    · simp at e
    · obtain ⟨g, g1, g2⟩ := hp sz ys h1
      exact ⟨g, ((hio none).trans (if_neg (by simp))).trans g1, g2⟩

/-- A value under the new name. -/
def abC (n b : Nat) : V → V
  | .ref (x, none) off len => if x = n then .ref (b, none) off len else .ref (x, none) off len
  | .ptr (x, none) a c => if x = n then .ptr (b, none) a c else .ptr (x, none) a c
  | x => x

theorem abC_ok {C' : Cx} {n b : Nat} (he : Ext C C') (h1 : ∀ v off len, VR C v (.ref (n, none) off len) → VR C' v (.ref (b, none) off len)) (h2 : ∀ v a c, VR C v (.ptr (n, none) a c) → VR C' v (.ptr (b, none) a c)) {v : Value} {x : V} (hv : VR C v x) : VR C' v (abC n b x) := by
  unfold abC
  split
  · split
    · rename_i e; subst e; exact h1 _ _ _ hv
    · exact hv.ext he
  · split
    · rename_i e; subst e; exact h2 _ _ _ hv
    · exact hv.ext he
  · exact hv.ext he

theorem lookT_map {f : V → V} (h : f .any = .any) : ∀ (T : List (Nat × V)) (t : Nat), lookT (T.map fun p => (p.1, f p.2)) t = f (lookT T t)
  | [], t => h.symm
  | (k, v) :: T, t => by
    simp only [List.map_cons, lookT]
    split
    · rfl
    · exact lookT_map h T t

/-- Root m becomes the row that cell (i, j) of root n is; n is called b from then on. -/
theorem weak_abs (n m i j : Nat) {k b b' : Nat} {T T' : List (Nat × V)} {R R' : List (Nat × Root)} {r q : Root} {x : List V} (hn : lookR R n = some r) (hm : lookR R m = some q) (hne : n ≠ m) (hx : r.els[i]? = some x) (hj : x[j]? = some (.ref (m, none) 0 k)) (hk : k = q.els.length) (hq : q.els.all (·.all noN0) = true)
    (hT : (T.map fun p => (p.1, abC n b p.2)) = T') (hR : (b, absR r q i j) :: dropR (dropR R n) m = R') (hb : b < b') : Weak E C0 ⟨T, R, b⟩ ⟨T', R', b'⟩ := by
  subst hT; subst hR
  rintro a w ⟨C, rfl, hC, hCR, hTs, hsz, hd, hF, hA⟩
  have hnb : ¬ C.A b := fun h => by
    rcases hA b h with h1 | ⟨_, h1, _⟩
    · exact absurd h1 (by show ¬ b < b; omega)
    · exact h1
  obtain ⟨C', e1, S1, S2, S3, _, e2, e3, e4, e5⟩ := abs_ok (b := b) hC (by rw [hCR]; exact hn) (by rw [hCR]; exact hm) hne hx hj hk hq hnb
  refine ⟨C', e1, S1, ?_, fun t ht => ?_, hsz, hd, hF.next S2 S3, fun y hy => ?_⟩
  · rw [e2, hCR]
    funext y
    show _ = lookR ((b, absR r q i j) :: dropR (dropR R n) m) y
    simp only [lookR, lookR_drop]
    by_cases c1 : y = b
    · rw [if_pos c1, if_pos c1.symm]
    · rw [if_neg c1, if_neg (Ne.symm c1)]
      by_cases c2 : y = n
      · rw [if_pos (by simp [c2])]
        by_cases c3 : y = m
        · rw [if_pos c3]
        · rw [if_neg c3, if_pos c2]
      · by_cases c3 : y = m
        · rw [if_pos (by simp [c3]), if_pos c3]
        · rw [if_neg (by simp [c2, c3]), if_neg c3, if_neg c2]
  · show VR C' _ (lookT (T.map fun p => (p.1, abC n b p.2)) t)
    rw [lookT_map rfl]
    exact abC_ok S2 e4 e5 (hTs t ht)
  · rcases e3 y hy with h | h
    · rcases hA y h with h1 | ⟨_, h1, _⟩
      · exact .inl (Nat.lt_trans h1 hb)
      · exact h1.elim
    · exact .inl (by rw [h]; exact hb)
end Go.Ev
namespace Go.Ev
open Go Go.RowKit
variable {E : Env} {C0 C : Cx}

/-- An empty root, beside the others. -/
theorem empty_ok (hC : Sat C) {b ty sz : Nat} (hb : ¬ C.A b) :
    Sat (mkCx C C.w [] b ⟨ty, sz, []⟩ fun _ => none) ∧ Ext C (mkCx C C.w [] b ⟨ty, sz, []⟩ fun _ => none) ∧ Fr C (mkCx C C.w [] b ⟨ty, sz, []⟩ fun _ => none) := by
  have hg : ∀ q s xs, getP (mkCx C C.w [] b ⟨ty, sz, []⟩ fun _ => none).R (b, q) = some (s, xs) → xs = [] := by
    intro q s xs hp
    have hr : (mkCx C C.w [] b ⟨ty, sz, []⟩ fun _ => none).R b = some ⟨ty, sz, []⟩ := if_pos rfl
    cases q with
    | none =>
      rw [act_of hr] at hp
      simp only [Option.some.injEq, Prod.mk.injEq] at hp
      exact hp.2.symm
    | some ij =>
      obtain ⟨x, k1, _⟩ := getP_row (i := ij.1) (j := ij.2) hr hp
      simp at k1
  have hio : ∀ q, (mkCx C C.w [] b ⟨ty, sz, []⟩ fun _ => none).io (b, q) = none := fun q => if_pos rfl
  refine mk_sat hC hb ⟨rfl, rfl, rfl, Nat.le_refl _⟩ (fun _ _ _ => rfl) (fun _ q s xs h => ?_) (fun q q' g _ _ h => (by cases h)) (fun q g _ h => (by cases h))
  obtain rfl := hg q s xs h
  exact ⟨fun x hx => by simp at hx, fun _ => rfl, fun g h => by rw [hio] at h; cases h⟩

theorem empty_ref {b ty sz : Nat} {v : Value} (hv : VR C v (.val (.slice none 0 0))) : VR (mkCx C C.w [] b ⟨ty, sz, []⟩ fun _ => none) v (.ref (b, none) 0 0) := by
  obtain rfl := hv.val_inv
  refine .ref (.inr rfl) (fun s xs hp => ⟨Nat.zero_le _, Nat.le_refl _, Nat.zero_le _, fun _ => ⟨rfl, rfl⟩, fun g h => ?_⟩)
  have : (mkCx C C.w [] b ⟨ty, sz, []⟩ fun _ => none).io (b, none) = none := if_pos rfl
  rw [this] at h; cases h

def nilR (r : Root) (i j b : Nat) : Root := { r with els := r.els.set i ((r.els.getD i []).set j (.ref (b, none) 0 0)) }

theorem nil_ok (hC : Sat C) {n i j b ty sz : Nat} {r : Root} {x : List V} (hn : C.R n = some r) (hx : r.els[i]? = some x) (hj : x[j]? = some (.val (.slice none 0 0))) (hb : ¬ C.A b) :
    ∃ C', C'.w = C.w ∧ Sat C' ∧ Ext C C' ∧ Fr C C' ∧ (C'.R = fun y => if y = n then some (nilR r i j b) else if y = b then some ⟨ty, sz, []⟩ else C.R y) ∧ ∀ y, C'.A y → C.A y ∨ y = b := by
  obtain ⟨S1, E1, F1⟩ := empty_ok (ty := ty) (sz := sz) hC hb
  have href : ∀ v, VR C v (.val (.slice none 0 0)) → VR (mkCx C C.w [] b ⟨ty, sz, []⟩ fun _ => none) v (.ref (b, none) 0 0) := fun v => empty_ref
  have hnb : n ≠ b := fun e => hb (e ▸ hC.nm n r hn)
  have hR1 : (mkCx C C.w [] b ⟨ty, sz, []⟩ fun _ => none).R n = some r := by
    show (if n = b then _ else if n ∈ [] then none else C.R n) = _
    rw [if_neg hnb, if_neg (by simp)]; exact hn
  have hp1 : getP (mkCx C C.w [] b ⟨ty, sz, []⟩ fun _ => none).R (n, none) = some (r.sz, r.els) := act_of hR1
  have hio1 : (mkCx C C.w [] b ⟨ty, sz, []⟩ fun _ => none).io (n, none) = C.io (n, none) := if_neg hnb
  obtain ⟨k1, k2, k3⟩ := hC.pl (n, none) _ _ (act_of hn)
  cases hio : C.io (n, none) with
  | none => rw [k2 hio] at hx; simp at hx
  | some g =>
    obtain ⟨cs, ty', m1, m2, m3, m4⟩ := k3 g hio
    have hxl := k1 x (List.mem_of_getElem? hx)
    have hset : ∀ (a : Nat) y (c : Nat) d, (r.els.set i (x.set j (.ref (b, none) 0 0)))[a]? = some y → y[c]? = some d → (a = i ∧ c = j ∧ d = .ref (b, none) 0 0) ∨ ∃ z, r.els[a]? = some z ∧ z[c]? = some d := by
      intro a y c d h1 h2
      rcases set_get h1 with ⟨rfl, rfl⟩ | ⟨e, h1⟩
      · rcases set_get h2 with ⟨rfl, rfl⟩ | ⟨e, h2⟩
        · exact .inl ⟨rfl, rfl, rfl⟩
        · exact .inr ⟨_, hx, h2⟩
      · exact .inr ⟨_, h1, h2⟩
    obtain ⟨S2, E2, F2⟩ := sat_store (ys := r.els.set i (x.set j (.ref (b, none) 0 0))) (w' := C.w) (g := g) (cs := cs) (cs' := cs) (ty := ty') S1 ⟨rfl, rfl, rfl, Nat.le_refl _⟩ hR1 hp1 (by simp) (fun y hy => by
        rcases List.mem_or_eq_of_mem_set hy with h | h
        · exact k1 y h
        · subst h; rw [List.length_set]; exact hxl)
      (fun a y c s zs h1 h2 => by
        rcases hset a y c _ h1 h2 with ⟨_, _, e⟩ | h
        · cases e
        · exact h) (hio1.trans hio) m1 m1 rfl (fun _ _ => rfl) (fun a y c d h1 h2 => by
        rcases hset a y c d h1 h2 with ⟨rfl, rfl, rfl⟩ | ⟨z, h3, h4⟩
        · obtain ⟨v, n1, n2, n3⟩ := m4 _ _ _ _ hx hj
          exact ⟨v, n1, n2, .inr (href v n3)⟩
        · obtain ⟨v, n1, n2, n3⟩ := m4 _ _ _ _ h3 h4
          exact ⟨v, n1, n2, .inl ⟨z, h3, h4, n1⟩⟩)
    refine ⟨_, ?_, S2, E1.trans E2, F1.trans F2, ?_, fun y hy => hy⟩
    · rfl
    funext y
    simp only [stR, setP, nilR, getD_of_get hx]
    by_cases e : y = n
    · rw [if_pos e, if_pos e]
    · rw [if_neg e, if_neg e]
      show (if y = b then _ else if y ∈ [] then none else C.R y) = _
      simp

/-- A nil slice in a cell of root n is an empty slice of a new, empty root. -/
theorem weak_nil (n i j ty sz : Nat) {b b' : Nat} {T : List (Nat × V)} {R R' : List (Nat × Root)} {r : Root} {x : List V} (hn : lookR R n = some r) (hx : r.els[i]? = some x) (hj : x[j]? = some (.val (.slice none 0 0)))
    (hR : (n, nilR r i j b) :: (b, ⟨ty, sz, []⟩) :: dropR R n = R') (hb : b < b') : Weak E C0 ⟨T, R, b⟩ ⟨T, R', b'⟩ := by
  subst hR
  rintro a w ⟨C, rfl, hC, hCR, hTs, hsz, hd, hF, hA⟩
  have hnb : ¬ C.A b := fun h => by
    rcases hA b h with h1 | ⟨_, h1, _⟩
    · exact absurd h1 (by show ¬ b < b; omega)
    · exact h1
  obtain ⟨C', e1, S1, S2, S3, e2, e3⟩ := nil_ok (b := b) (ty := ty) (sz := sz) hC (by rw [hCR]; exact hn) hx hj hnb
  refine ⟨C', e1, S1, ?_, fun t ht => (hTs t ht).ext S2, hsz, hd, hF.next S2 S3, fun y hy => ?_⟩
  · rw [e2, hCR]
    funext y
    show _ = lookR ((n, nilR r i j b) :: (b, ⟨ty, sz, []⟩) :: dropR R n) y
    simp only [lookR, lookR_drop]
    by_cases c1 : y = n
    · rw [if_pos c1, if_pos c1.symm]
    · rw [if_neg c1, if_neg (Ne.symm c1)]
      by_cases c2 : y = b
      · rw [if_pos c2, if_pos c2.symm]
      · rw [if_neg c2, if_neg (Ne.symm c2), if_neg c1]
  · rcases e3 y hy with h | h
    · rcases hA y h with h1 | ⟨_, h1, _⟩
      · exact .inl (Nat.lt_trans h1 hb)
      · exact h1.elim
    · exact .inl (by rw [h]; exact hb)
end Go.Ev
namespace Go.Ev
open Go Go.RowKit
variable {E : Env} {C0 : Cx} {K : Exit → St → Prop} {σ : St}

/-- Two texts in a row, with a state between them that is told. -/
theorem ev_cut {x y : Code} (σ' : St) (h : Ev E C0 x (seqK (fun s => Weak E C0 s σ') K) σ) (hy : Ev E C0 y K σ') : Ev E C0 (.seq x y) K σ := by
  intro a w hi
  refine wp_seq (wp_mono (h a w hi) ?_)
  rintro e a' w' ⟨s, hk, hi'⟩
  cases e with
  | normal => exact hy a' w' (hk a' w' hi')
  | _ => exact ⟨s, hk, hi'⟩
end Go.Ev
namespace Go.Ev
open Go Go.RowKit
variable {E : Env} {C0 C : Cx}

def plCx (C : Cx) (ρ : Pl → Pl) (R' : Rs) (A' : Nat → Prop) : Cx := { C with io := fun p => C.io (ρ p), R := R', A := A' }

/-- A cell of a place, and what it was. -/
inductive CellP (A' : Nat → Prop) (OA : Nat → Prop) (ρ : Pl → Pl) (p : Pl) (i j : Nat) : V → V → Prop
  | same {c : V} (h : notRow c = true) : CellP A' OA ρ p i j c c
  | row {s : Nat} {zs ws : List (List V)} (hp : p.2 = none) (hl : ws.length = zs.length) (h : ρ (p.1, some (i, j)) = ((ρ p).1, some (i, j))) : CellP A' OA ρ p i j (.row s ws) (.row s zs)
  | un {s : Nat} {zs : List (List V)} {q : Pl} (hA : A' q.1) (hO : ¬ OA q.1) (h : ρ q = ((ρ p).1, some (i, j))) : CellP A' OA ρ p i j (.row s zs) (.ref q 0 zs.length)

structure RenPl (C : Cx) (ρ : Pl → Pl) (R' : Rs) (A' : Nat → Prop) : Prop where
  h : ∀ p sz xs', ¬ C.A p.1 → getP R' p = some (sz, xs') → ∃ xs, getP C.R (ρ p) = some (sz, xs) ∧ xs.length = xs'.length ∧ ∀ (i : Nat) x', xs'[i]? = some x' → ∃ x, xs[i]? = some x ∧ x.length = x'.length ∧ ∀ (j : Nat) c c', x[j]? = some c → x'[j]? = some c' → CellP A' C.A ρ p i j c c'
  inj : ∀ p q, (getP R' p).isSome → (getP R' q).isSome → ρ p = ρ q → p = q
  ty : ∀ n r g cs ty, ¬ C.A n → R' n = some r → C.io (ρ (n, none)) = some g → C.w.heap[g]? = some (.cells cs ty (0, 0)) → r.ty = ty
  nm : ∀ n r, R' n = some r → A' n
  A : ∀ n, C.A n → A' n
  old : ∀ n, C.A n → (R' n = none ∨ R' n = C.R n) ∧ ∀ s, ρ (n, s) = (n, s)

namespace RenPl
variable {ρ : Pl → Pl} {R' : Rs} {A' : Nat → Prop} (u : RenPl C ρ R' A')
include u

theorem oldP {p : Pl} {x} (hA : C.A p.1) (h : getP R' p = some x) : getP C.R p = some x ∧ R' p.1 = C.R p.1 := by
  rcases (u.old _ hA).1 with e | e
  · obtain ⟨r, hr⟩ := getP_some h
    rw [e] at hr; cases hr
  · exact ⟨by rw [← h]; exact getP_congr e.symm, e⟩

theorem act {p : Pl} (h : (getP R' p).isSome) : Act? C (ρ p) := by
  obtain ⟨⟨sz, xs⟩, e⟩ := Option.isSome_iff_exists.1 h
  by_cases hA : C.A p.1
  · have := (u.old _ hA).2 p.2
    rw [this]
    unfold Act?; rw [(u.oldP hA e).1]; rfl
  · obtain ⟨xs0, k, _⟩ := u.h p sz xs hA e
    unfold Act?; rw [k]; rfl

theorem ext : Ext C (plCx C ρ R' A') := by
  refine ⟨fun _ _ => rfl, fun _ h => h, u.A, fun p hA sz xs hx => ?_⟩
  have hx' : getP R' p = some (sz, xs) := hx
  refine ⟨xs, (u.oldP hA hx').1, Nat.le_refl _, ?_, fun g _ cs ty h => ⟨cs, h, rfl⟩⟩
  show C.io (ρ p) = _
  rw [(u.old _ hA).2 p.2]

theorem refP {v : Value} {q : Pl} {off len : Nat} (hA : A' q.1) (hO : ¬ C.A q.1) (hv : VR C v (.ref (ρ q) off len)) : VR (plCx C ρ R' A') v (.ref q off len) := by
  obtain ⟨a, cap, rfl, h1, h2⟩ := hv.ref_inv
  refine .ref hA (fun sz xs hx => ?_)
  obtain ⟨xs0, k1, k2, _⟩ := u.h q sz xs hO hx
  obtain ⟨o1, o2, o3, o4, o5⟩ := h2 _ _ k1
  exact ⟨by omega, o2, o3, o4, o5⟩

theorem ptrP {v : Value} {q : Pl} {i j : Nat} (hA : A' q.1) (hO : ¬ C.A q.1) (hv : VR C v (.ptr (ρ q) i j)) : VR (plCx C ρ R' A') v (.ptr q i j) := by
  obtain ⟨a, rfl, h1, h2⟩ := hv.ptr_inv
  refine .ptr hA (fun sz xs hx => ?_)
  obtain ⟨xs0, k1, k2, _⟩ := u.h q sz xs hO hx
  exact h2 _ _ k1

theorem sat (hC : Sat C) : Sat (plCx C ρ R' A') ∧ Fr C (plCx C ρ R' A') := by
  have he := u.ext
  have act : ∀ p, Act? (plCx C ρ R' A') p → Act? C (ρ p) := fun p h => u.act h
  refine ⟨⟨fun p sz xs hp => ?_, fun p q g hp hq h1 h2 => u.inj p q hp hq (hC.inj _ _ g (act p hp) (act q hq) h1 h2), fun p g hp h1 => hC.own _ g (act p hp) h1, hC.lt, u.nm⟩, ⟨rfl, rfl, rfl, Nat.le_refl _, fun _ _ _ => rfl, ?_, fun _ h => .inl h⟩⟩
  · have hp' : getP R' p = some (sz, xs) := hp
    by_cases hA : C.A p.1
    · obtain ⟨k, kR⟩ := u.oldP hA hp'
      obtain ⟨k1, k2, k3⟩ := hC.pl p sz xs k
      have e : ρ p = p := (u.old _ hA).2 p.2
      have e' : (plCx C ρ R' A').io p = C.io p := by show C.io (ρ p) = _; rw [e]
      refine ⟨k1, fun h => k2 (e' ▸ h), fun g hg => ?_⟩
      obtain ⟨cs, ty, m1, m2, m3, m4⟩ := k3 g (e' ▸ hg)
      refine ⟨cs, ty, m1, fun hn r hr => m2 hn r (by rw [← kR]; exact hr), m3, fun i x j c h1 h2 => ?_⟩
      obtain ⟨v, n1, n2, n3⟩ := m4 i x j c h1 h2
      exact ⟨v, n1, n2, n3.ext he⟩
    · obtain ⟨xs0, h1, h2, h3⟩ := u.h p sz xs hA hp'
      obtain ⟨k1, k2, k3⟩ := hC.pl _ _ _ h1
      refine ⟨fun x hx => ?_, fun h => ?_, fun g hg => ?_⟩
      · obtain ⟨i, hi⟩ := List.getElem?_of_mem hx
        obtain ⟨x0, e1, e2, _⟩ := h3 i x hi
        rw [← e2]; exact k1 x0 (List.mem_of_getElem? e1)
      · have := k2 h; rw [this] at h2; exact List.eq_nil_of_length_eq_zero h2.symm
      · obtain ⟨cs, ty, m1, m2, m3, m4⟩ := k3 g hg
        refine ⟨cs, ty, m1, fun hn r hr => ?_, by rw [← h2]; exact m3, fun i x' j c' e1 e2 => ?_⟩
        · obtain ⟨n, s⟩ := p
          simp only at hn
          subst hn
          exact u.ty n r g cs ty hA hr hg m1
        · obtain ⟨x, e3, e4, e5⟩ := h3 i x' e1
          have hj := (List.getElem?_eq_some_iff.1 e2).1
          have e6 : x[j]? = some (x[j]'(by omega)) := List.getElem?_eq_getElem _
          obtain ⟨v, n1, n2, n3⟩ := m4 i x j _ e3 e6
          refine ⟨v, n1, n2, ?_⟩
          have hc := e5 j _ c' e6 e2
          generalize x[j]'(by omega) = c at hc n3
          cases hc with
          | same h => cases c' <;> first | exact VR.ext he n3 | simp [notRow] at h
          | row hp2 hl h =>
            obtain ⟨n4, n5⟩ := n3
            refine ⟨hp2, ?_⟩
            rw [← hl]
            exact u.refP (u.nm _ _ (getP_some hp').choose_spec) hA (by rw [h]; exact n5)
          | un hA' hO h =>
            obtain ⟨n4, n5⟩ := n3
            exact u.refP hA' hO (by rw [h]; exact n5)
  · rintro b ⟨p, hp, hi⟩
    exact .inl ⟨_, act p hp, hi⟩
end RenPl

def unR (r : Root) (i j m k : Nat) : Root := { r with els := r.els.set i ((r.els.getD i []).set j (.ref (m, none) 0 k)) }
def unPl (n i j b : Nat) (p : Pl) : Pl := if p.1 = b then (n, p.2) else if p.1 = b + 1 then (n, some (i, j)) else p

theorem un_cell {r : Root} {i j a m k : Nat} {x y : List V} (hx : r.els[i]? = some x) {c : Nat} {d : V} (h1 : (unR r i j m k).els[a]? = some y) (h2 : y[c]? = some d) :
    (a = i ∧ c = j ∧ d = .ref (m, none) 0 k) ∨ (¬ (a = i ∧ c = j) ∧ ∃ z, r.els[a]? = some z ∧ z[c]? = some d) := by
  simp only [unR, getD_of_get hx] at h1
  rcases set_get h1 with ⟨rfl, rfl⟩ | ⟨e, h1⟩
  · rcases set_get h2 with ⟨rfl, rfl⟩ | ⟨e, h2⟩
    · exact .inl ⟨rfl, rfl, rfl⟩
    · exact .inr ⟨fun h => e h.2, _, hx, h2⟩
  · exact .inr ⟨fun h => e h.1, _, h1, h2⟩

theorem un_ok (hC : Sat C) {n i j s b : Nat} {ty : TypeId} {r : Root} {x : List V} {zs : List (List V)} {R' : Rs} (hn : C.R n = some r) (hx : r.els[i]? = some x) (hj : x[j]? = some (.row s zs)) (hb : ¬ C.A b) (hb1 : ¬ C.A (b + 1))
    (hty : ∀ g cs ty', C.io (n, some (i, j)) = some g → C.w.heap[g]? = some (.cells cs ty' (0, 0)) → ty = ty')
    (hR : ∀ y, R' y = if y = b then some (unR r i j (b + 1) zs.length) else if y = b + 1 then some ⟨ty, s, zs⟩ else if y = n then none else C.R y) : RenPl C (unPl n i j b) R' (fun y => C.A y ∨ y = b ∨ y = b + 1) := by
  have gij : getP C.R (n, some (i, j)) = some (s, zs) := getP_cell hn hx hj
  have hno := sat_norow hC gij
  have hnA := hC.nm n r hn
  have hnb : n ≠ b := fun e => hb (e ▸ hnA)
  have hnb1 : n ≠ b + 1 := fun e => hb1 (e ▸ hnA)
  have rb : R' b = some (unR r i j (b + 1) zs.length) := by rw [hR, if_pos rfl]
  have rb1 : R' (b + 1) = some ⟨ty, s, zs⟩ := by rw [hR, if_neg (by omega), if_pos rfl]
  have rn : R' n = none := by rw [hR, if_neg hnb, if_neg hnb1, if_pos rfl]
  have pb : ∀ t, unPl n i j b (b, t) = (n, t) := fun t => if_pos rfl
  have pb1 : ∀ t, unPl n i j b (b + 1, t) = (n, some (i, j)) := fun t => by unfold unPl; rw [if_neg (by show ¬ b + 1 = b; omega)]; exact if_pos rfl
  have po : ∀ p : Pl, p.1 ≠ b → p.1 ≠ b + 1 → unPl n i j b p = p := fun p h1 h2 => by simp only [unPl]; rw [if_neg h1, if_neg h2]
  have inact : ∀ ij, getP R' (b + 1, some ij) = none := by
    intro ij
    cases e : getP R' (b + 1, some ij) with
    | none => rfl
    | some q =>
      obtain ⟨a, c⟩ := ij
      obtain ⟨y, h1, h2⟩ := getP_row rb1 e
      exact absurd rfl (hno y (List.mem_of_getElem? h1) _ (List.mem_of_getElem? h2) _ _)
  have inij : getP R' (b, some (i, j)) = none := by
    cases e : getP R' (b, some (i, j)) with
    | none => rfl
    | some q =>
      obtain ⟨y, h1, h2⟩ := getP_row rb e
      rcases un_cell hx h1 h2 with ⟨_, _, h3⟩ | ⟨h3, _⟩
      · cases h3
      · exact absurd ⟨rfl, rfl⟩ h3
  have same : ∀ p ρp (ys : List (List V)), (∀ y, y ∈ ys → ∀ d, d ∈ y → notRow d = true) → ∀ (a : Nat) y, ys[a]? = some y → ∃ z, ys[a]? = some z ∧ z.length = y.length ∧ ∀ (c : Nat) d d', z[c]? = some d → y[c]? = some d' → CellP (fun y => C.A y ∨ y = b ∨ y = b + 1) C.A ρp p a c d d' := by
    intro p ρp ys hnr a y hy
    refine ⟨y, hy, rfl, fun c d d' h1 h2 => ?_⟩
    obtain rfl := Option.some.inj (h1.symm.trans h2)
    exact .same (hnr y (List.mem_of_getElem? hy) d (List.mem_of_getElem? h1))
  have nr : ∀ {ys : List (List V)}, NoRow ys → ∀ y, y ∈ ys → ∀ d, d ∈ y → notRow d = true := by
    intro ys h y hy d hd
    cases d <;> first | rfl | exact absurd rfl (h y hy _ hd _ _)
  refine ⟨fun p sz xs' hA hp => ?_, fun p q hp hq e => ?_, fun m r' g cs ty' hA hr hg hh => ?_, fun m r' hr => ?_, fun m hm => .inl hm, fun m hm => ?_⟩
  · obtain ⟨m, t⟩ := p
    by_cases e1 : m = b
    · subst e1
      rw [pb]
      cases t with
      | none =>
        rw [act_of rb] at hp
        simp only [Option.some.injEq, Prod.mk.injEq] at hp
        obtain ⟨rfl, rfl⟩ := hp
        refine ⟨r.els, act_of hn, by simp [unR], fun a y hy => ?_⟩
        have hal := (List.getElem?_eq_some_iff.1 hy).1
        simp only [unR, List.length_set] at hal
        have e : r.els[a]? = some r.els[a] := List.getElem?_eq_getElem hal
        refine ⟨r.els[a], e, ?_, fun c d d' h1 h2 => ?_⟩
        · simp only [unR, getD_of_get hx] at hy
          rcases set_get hy with ⟨rfl, rfl⟩ | ⟨_, hy⟩
          · rw [List.length_set]
            rw [hx] at e
            rw [← Option.some.inj e]
          · rw [hy] at e; rw [Option.some.inj e]
        · rcases un_cell hx hy h2 with ⟨rfl, rfl, rfl⟩ | ⟨hne, z, h3, h4⟩
          · rw [hx] at e
            rw [← Option.some.inj e, hj] at h1
            cases h1
            exact .un (q := (m + 1, none)) (.inr (.inr rfl)) hb1 (by rw [pb1, pb])
          · rw [e] at h3
            cases h3
            obtain rfl := Option.some.inj (h1.symm.trans h4)
            cases d with
            | row s' zs' => exact .row rfl rfl (by rw [pb, pb])
            | _ => exact .same rfl
      | some ac =>
        obtain ⟨a, c⟩ := ac
        obtain ⟨y, h1, h2⟩ := getP_row rb hp
        rcases un_cell hx h1 h2 with ⟨_, _, h3⟩ | ⟨hne, z, h3, h4⟩
        · cases h3
        · have hg := getP_cell hn h3 h4
          exact ⟨xs', hg, rfl, same _ _ xs' (nr (sat_norow hC hg))⟩
    · by_cases e2 : m = b + 1
      · subst e2
        rw [pb1]
        cases t with
        | none =>
          rw [act_of rb1] at hp
          simp only [Option.some.injEq, Prod.mk.injEq] at hp
          obtain ⟨rfl, rfl⟩ := hp
          exact ⟨zs, gij, rfl, same _ _ zs (nr hno)⟩
        | some ac => rw [inact] at hp; cases hp
      · obtain ⟨r', hr'⟩ := getP_some hp
        have hr2 := hr'
        simp only [hR] at hr2
        rw [if_neg e1, if_neg e2] at hr2
        split at hr2
        · cases hr2
        · exact absurd (hC.nm _ _ hr2) hA
  · have key : ∀ p : Pl, (getP R' p).isSome → (p.1 = b ∧ p.2 ≠ some (i, j)) ∨ (p = (b + 1, none)) ∨ (p.1 ≠ b ∧ p.1 ≠ b + 1 ∧ p.1 ≠ n) := by
      intro p h
      obtain ⟨m, t⟩ := p
      by_cases e1 : m = b
      · subst e1
        exact .inl ⟨rfl, fun e => by simp only at e; rw [e, inij] at h; cases h⟩
      · by_cases e2 : m = b + 1
        · subst e2
          cases t with
          | none => exact .inr (.inl rfl)
          | some ac => rw [inact] at h; cases h
        · refine .inr (.inr ⟨e1, e2, fun e => ?_⟩)
          obtain ⟨x, hx⟩ := Option.isSome_iff_exists.1 h
          obtain ⟨r', hr'⟩ := getP_some hx
          simp only at e hr'
          rw [e, rn] at hr'; cases hr'
    obtain ⟨m, t⟩ := p
    obtain ⟨m', t'⟩ := q
    rcases key _ hp with ⟨h1, h2⟩ | h1 | ⟨h1, h2, h3⟩ <;> rcases key _ hq with ⟨k1, k2⟩ | k1 | ⟨k1, k2, k3⟩ <;> simp only [Prod.mk.injEq] at h1 k1
    · subst h1; subst k1
      rw [pb, pb] at e
      simp only [Prod.mk.injEq, true_and] at e
      rw [e]
    · subst h1; obtain ⟨rfl, rfl⟩ := k1
      rw [pb, pb1] at e
      simp only [Prod.mk.injEq, true_and] at e
      exact absurd e h2
    · subst h1
      rw [pb, po _ k1 k2] at e
      simp only [Prod.mk.injEq] at e
      exact absurd e.1.symm k3
    · obtain ⟨rfl, rfl⟩ := h1; subst k1
      rw [pb, pb1] at e
      simp only [Prod.mk.injEq, true_and] at e
      exact absurd e.symm k2
    · obtain ⟨rfl, rfl⟩ := h1; obtain ⟨rfl, rfl⟩ := k1; rfl
    · obtain ⟨rfl, rfl⟩ := h1
      rw [pb1, po _ k1 k2] at e
      simp only [Prod.mk.injEq] at e
      exact absurd e.1.symm k3
    · subst k1
      rw [pb, po _ h1 h2] at e
      simp only [Prod.mk.injEq] at e
      exact absurd e.1 h3
    · obtain ⟨rfl, rfl⟩ := k1
      rw [pb1, po _ h1 h2] at e
      simp only [Prod.mk.injEq] at e
      exact absurd e.1 h3
    · rw [po _ h1 h2, po _ k1 k2] at e; exact e
  · rw [hR] at hr
    split at hr
    · rename_i e
      subst e
      cases hr
      rw [pb] at hg
      obtain ⟨_, _, k3⟩ := hC.pl _ _ _ (act_of hn)
      obtain ⟨cs', ty'', m1, m2, _⟩ := k3 g hg
      rw [hh] at m1
      simp only [Option.some.injEq, Obj.cells.injEq] at m1
      rw [m1.2.1]
      exact m2 rfl r hn
    · split at hr
      · rename_i e
        subst e
        cases hr
        rw [pb1] at hg
        exact hty g cs ty' hg hh
      · split at hr
        · cases hr
        · exact absurd (hC.nm _ _ hr) hA
  · rw [hR] at hr
    split at hr
    · rename_i e; exact .inr (.inl e)
    · split at hr
      · rename_i e; exact .inr (.inr e)
      · split at hr
        · cases hr
        · exact .inl (hC.nm _ _ hr)
  · have e1 : m ≠ b := fun e => hb (e ▸ hm)
    have e2 : m ≠ b + 1 := fun e => hb1 (e ▸ hm)
    refine ⟨?_, fun t => po (m, t) e1 e2⟩
    rw [hR, if_neg e1, if_neg e2]
    split
    · exact .inl rfl
    · exact .inr rfl

/-- A row becomes a root of its own (b + 1, of some type); the root that holds it is called b from then on. -/
theorem ev_unabs {c : Code} {K : Exit → St → Prop} (n i j : Nat) {b b' s : Nat} {T T' : List (Nat × V)} {R : List (Nat × Root)} {r : Root} {x : List V} {zs : List (List V)} (hn : lookR R n = some r) (hx : r.els[i]? = some x) (hj : x[j]? = some (.row s zs))
    (hT : (T.map fun p => (p.1, abC n b p.2)) = T') (hb : b + 1 < b') (h : ∀ ty, Ev E C0 c K ⟨T', (b, unR r i j (b + 1) zs.length) :: (b + 1, ⟨ty, s, zs⟩) :: dropR R n, b'⟩) : Ev E C0 c K ⟨T, R, b⟩ := by
  subst hT
  rintro a w ⟨C, rfl, hC, hCR, hTs, hsz, hd, hF, hA⟩
  have fresh : ∀ m, b ≤ m → ¬ C.A m := fun m hm h => by
    rcases hA m h with h1 | ⟨_, h1, _⟩
    · exact absurd h1 (by show ¬ m < b; omega)
    · exact h1
  obtain ⟨ty, hty⟩ : ∃ ty, ∀ g cs ty', C.io (n, some (i, j)) = some g → C.w.heap[g]? = some (.cells cs ty' (0, 0)) → ty = ty' := by
    cases e : C.io (n, some (i, j)) with
    | none => exact ⟨0, fun g cs ty' h => by cases h⟩
    | some g =>
      have gij : getP C.R (n, some (i, j)) = some (s, zs) := getP_cell (by rw [hCR]; exact hn) hx hj
      obtain ⟨cs, ty, m1, _⟩ := (hC.pl _ _ _ gij).2.2 g e
      refine ⟨ty, fun g' cs' ty' h h' => ?_⟩
      cases h
      rw [m1] at h'
      simp only [Option.some.injEq, Obj.cells.injEq] at h'
      exact h'.2.1
  refine h ty a C.w ?_
  have u := un_ok (b := b) (R' := lookR ((b, unR r i j (b + 1) zs.length) :: (b + 1, ⟨ty, s, zs⟩) :: dropR R n)) hC (by rw [hCR]; exact hn) hx hj (fresh b (Nat.le_refl _)) (fresh (b + 1) (by omega)) hty (fun y => by
    simp only [lookR, lookR_drop]
    by_cases e1 : y = b
    · rw [if_pos e1, if_pos e1.symm]
    · rw [if_neg e1, if_neg (Ne.symm e1)]
      by_cases e2 : y = b + 1
      · rw [if_pos e2, if_pos e2.symm]
      · rw [if_neg e2, if_neg (Ne.symm e2), hCR])
  obtain ⟨S1, S3⟩ := u.sat hC
  have pb : ∀ t, unPl n i j b (b, t) = (n, t) := fun t => if_pos rfl
  refine ⟨plCx C (unPl n i j b) (lookR ((b, unR r i j (b + 1) zs.length) :: (b + 1, ⟨ty, s, zs⟩) :: dropR R n)) (fun y => C.A y ∨ y = b ∨ y = b + 1), rfl, S1, rfl, fun t ht => ?_, hsz, hd, hF.next u.ext S3, fun y hy => ?_⟩
  · show VR _ _ (lookT (T.map fun p => (p.1, abC n b p.2)) t)
    rw [lookT_map rfl]
    exact abC_ok u.ext (fun v off len hv => u.refP (.inr (.inl rfl)) (fresh b (Nat.le_refl _)) (by rw [pb]; exact hv)) (fun v a c hv => u.ptrP (.inr (.inl rfl)) (fresh b (Nat.le_refl _)) (by rw [pb]; exact hv)) (hTs t ht)
  · left
    rcases hy with h | h | h
    · rcases hA y h with h1 | ⟨_, h1, _⟩
      · have : y < b := h1
        show y < b'; omega
      · exact h1.elim
    · show y < b'; omega
    · show y < b'; omega
end Go.Ev
