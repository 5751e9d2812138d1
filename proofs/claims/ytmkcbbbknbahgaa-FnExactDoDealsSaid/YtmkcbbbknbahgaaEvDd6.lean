/- Part 6 of the proof: the evaluator and the contracts of functions. -/
import Derived.Below
import Derived.ChangeArms
import Derived.ChangeOld
import Derived.DataReads
import Derived.KernelRfl
import Derived.Laws.AppendOwn
import Derived.Laws.BytesArg
import Derived.Laws.BytesString
import Derived.Laws.CopyRow
import Derived.Laws.Entries
import Derived.Laws.IdiomCopy
import Derived.Laws.MakeOwn
import Derived.Laws.OwnMore
import Derived.OpenShut
import Derived.Orders
import Derived.Test.YtmkcbbbknbahgaaProg
import Derived.Test.YtmkcbbbknbahgaaEvDd5
set_option linter.unusedVariables false
set_option linter.unusedSimpArgs false
namespace Go.Ev
open Go Go.RowKit
variable {P : Program}

abbrev FW (w : World) : Nat → Prop := fun k => k < w.heap.size

/-- What a type's cells read as: k cells, told by a value of α. -/
structure RdT (P : Program) (t k : Nat) {α : Type} (f : α → List V) (ok : α → Prop) : Prop where
  get : ∀ {H : Type} (enc : TypeId × Value → H) (w : World) (base : Nat) (spare : Nat → Bool) (held : Bool) (fuel : Nat) (cs : List Value) (x : DataW H × List MemPlace), DataW.trod enc P w base spare held fuel t cs = some x →
    ∃ a : α, ok a ∧ cs.length = k ∧ (f a).length = k ∧ ∀ (i : Nat) v c, cs[i]? = some v → (f a)[i]? = some c → Rd w (FW w) v c ∧ v.oneCell' = true

theorem one_get {α β : Type} {v u : α} {c d : β} {i : Nat} (h1 : [v][i]? = some u) (h2 : [c][i]? = some d) : u = v ∧ d = c := by
  cases i with
  | zero => simp at h1 h2; exact ⟨h1.symm, h2.symm⟩
  | succ i => simp at h1

theorem rd_int {t : TypeId} {kd : IntKind} (ht : P.underlying t = some (.int kd)) : RdT P t 1 (fun n : Int => [.val (.int kd n)]) (fun n => (Lit.int kd n).wf = true) := by
  refine ⟨?_⟩
  intro H enc w base spare held fuel cs x h
  obtain ⟨n, rfl, _, hw⟩ := DataW.trod_int ht h
  refine ⟨n, hw, rfl, rfl, fun i v c h1 h2 => ?_⟩
  obtain ⟨rfl, rfl⟩ := one_get h1 h2
  exact ⟨.val _, rfl⟩

theorem rd_bool {t : TypeId} (ht : P.underlying t = some .bool) : RdT P t 1 (fun n : Bool => [.val (.bool n)]) (fun _ => True) := by
  refine ⟨?_⟩
  intro H enc w base spare held fuel cs x h
  obtain ⟨n, rfl, _⟩ := DataW.trod_bool ht h
  refine ⟨n, trivial, rfl, rfl, fun i v c h1 h2 => ?_⟩
  obtain ⟨rfl, rfl⟩ := one_get h1 h2
  exact ⟨.val _, rfl⟩

theorem rd_slice {t e : TypeId} {k : Nat} {α : Type} {f : α → List V} {ok : α → Prop} (he : RdT P e k f ok) (hk : 0 < k) (hc : P.cellsOf e = k) (ht : P.underlying t = some (.slice e)) :
    RdT P t 1 (fun l : List α => [.list k (l.map f)]) (fun l => l.length ≤ maxLen ∧ ∀ a, a ∈ l → ok a) := by
  refine ⟨?_⟩
  intro H enc w base spare held fuel cs x h
  rcases DataW.trod_slice ht h with ⟨rfl, _⟩ | ⟨a, len, cap, elems, rest, n, _, rfl, _, hb, hlc, hcm, hel, hel2, _, _⟩
  · refine ⟨[], ⟨Nat.zero_le _, fun a ha => by simp at ha⟩, rfl, rfl, fun i v c h1 h2 => ?_⟩
    obtain ⟨rfl, rfl⟩ := one_get h1 h2
    exact ⟨.list ⟨0, 0, none⟩ (fun _ _ => undef) rfl (Nat.zero_le _) (Nat.le_refl _) (fun x hx => by simp at hx) (fun h => by omega) (fun h => by omega) (fun i x j c hi => by simp at hi) (fun i x j c hi => by simp at hi), rfl⟩
  · rw [hc] at hel2
    have key : ∀ m, m ≤ len → ∃ l : List α, l.length = m ∧ ∀ (i : Nat) b, l[i]? = some b → ok b ∧ (f b).length = k ∧ ∃ cs, w.cells? base (a.add (i * k)) k = some cs ∧ ∀ (j : Nat) v c, cs[j]? = some v → (f b)[j]? = some c → Rd w (FW w) v c ∧ v.oneCell' = true := by
      intro m
      induction m with
      | zero => exact fun _ => ⟨[], rfl, fun i b h => by simp at h⟩
      | succ m ih =>
        intro hm
        obtain ⟨l, h1, h2⟩ := ih (by omega)
        have h3 := hel2 m (by omega)
        have h4 : elems[m]? = some (elems[m]'(by omega)) := List.getElem?_eq_getElem (by omega)
        rw [h4, Option.bind_eq_some_iff] at h3
        obtain ⟨cs, h5, h6⟩ := h3
        obtain ⟨b, k1, k2, k3, k4⟩ := he.get enc w base spare held n cs _ h6
        refine ⟨l ++ [b], by simp [h1], fun i b' hb' => ?_⟩
        rw [List.getElem?_append] at hb'
        split at hb'
        · exact h2 i b' hb'
        · rename_i hge
          have : i = l.length := by
            have := (List.getElem?_eq_some_iff.1 hb').1
            simp only [List.length_cons, List.length_nil] at this
            omega
          subst this
          rw [Nat.sub_self, List.getElem?_cons_zero, Option.some.injEq] at hb'
          subst hb'
          rw [h1]
          exact ⟨k1, k3, cs, h5, k4⟩
    obtain ⟨l, h1, h2⟩ := key len (Nat.le_refl _)
    refine ⟨l, ⟨by omega, fun b hb' => ?_⟩, rfl, rfl, fun i v c e1 e2 => ?_⟩
    · obtain ⟨i, hi⟩ := List.getElem?_of_mem hb'
      exact (h2 i b hi).1
    obtain ⟨rfl, rfl⟩ := one_get e1 e2
    have cell : ∀ (i : Nat) x (j : Nat) c, (l.map f)[i]? = some x → x[j]? = some c → ∃ v, w.cell? (a.add (i * k + j)) = some v ∧ Rd w (FW w) v c ∧ v.oneCell' = true := by
      intro i x j c hi hj
      rw [List.getElem?_map, Option.map_eq_some_iff] at hi
      obtain ⟨b, hb1, rfl⟩ := hi
      obtain ⟨_, k2, cs, k3, k4⟩ := h2 i b hb1
      obtain ⟨_, m1, m2⟩ := World.cells?_some k3
      have hjk : j < k := by rw [← k2]; exact (List.getElem?_eq_some_iff.1 hj).1
      have h5 : cs[j]? = some (cs[j]'(by omega)) := List.getElem?_eq_getElem (by omega)
      have h6 := m2 j hjk
      rw [add_add, h5] at h6
      exact ⟨_, h6, k4 j _ c h5 hj⟩
    refine ⟨.list a (fun i j => (w.cell? (a.add (i * k + j))).getD undef) (by rw [List.length_map]; exact h1) (by omega) hlc (fun x hx => ?_) (fun _ => rfl) (fun hl => ?_) (fun i x j c hi hj => ?_) (fun i x j c hi hj => ?_), rfl⟩
    · obtain ⟨b, hb1, rfl⟩ := List.mem_map.1 hx
      obtain ⟨i, hi⟩ := List.getElem?_of_mem hb1
      exact (h2 i b hi).2.1
    · obtain ⟨b, hb1⟩ : ∃ b, l[0]? = some b := ⟨_, List.getElem?_eq_getElem (by omega)⟩
      obtain ⟨_, _, cs, k3, _⟩ := h2 0 b hb1
      have := World.cells?_block k3 hk
      rw [add_block] at this
      exact this
    · obtain ⟨v, v1, v2, v3⟩ := cell i x j c hi hj
      rw [v1]
      exact ⟨rfl, v3⟩
    · obtain ⟨v, v1, v2, v3⟩ := cell i x j c hi hj
      rw [v1]
      exact v2

/-- Fields, from a place on. -/
structure RdF (P : Program) (fs : List Field) (off k : Nat) {α : Type} (f : α → List V) (ok : α → Prop) : Prop where
  get : ∀ {H : Type} (enc : TypeId × Value → H) (w : World) (base : Nat) (spare : Nat → Bool) (held : Bool) (n : Nat) (cs : List Value), off + k ≤ cs.length → (∀ fld, fld ∈ fs → ∃ y, DataW.trod enc P w base spare held n fld.type ((cs.drop fld.offset).take (P.cellsOf fld.type)) = some y) →
    ∃ a : α, ok a ∧ (f a).length = k ∧ ∀ (i : Nat) v c, cs[off + i]? = some v → (f a)[i]? = some c → Rd w (FW w) v c ∧ v.oneCell' = true

theorem rdF_nil (off : Nat) : RdF P [] off 0 (fun _ : Unit => []) (fun _ => True) :=
  ⟨fun _ _ _ _ _ _ _ _ _ => ⟨(), trivial, rfl, fun i v c _ h => by simp at h⟩⟩

theorem rdF_cons {fld : Field} {fs : List Field} {off kt k : Nat} {α β : Type} {g : β → List V} {okb : β → Prop} {f : α → List V} {ok : α → Prop} (h : RdT P fld.type kt g okb) (ho : fld.offset = off) (hc : P.cellsOf fld.type = kt) (hk : RdF P fs (off + kt) k f ok) :
    RdF P (fld :: fs) off (kt + k) (fun p : β × α => g p.1 ++ f p.2) (fun p => okb p.1 ∧ ok p.2) := by
  refine ⟨?_⟩
  intro H enc w base spare held n cs hl hf
  obtain ⟨y, hy⟩ := hf fld (by simp)
  rw [ho, hc] at hy
  obtain ⟨b, k1, k2, k3, k4⟩ := h.get enc w base spare held n _ _ hy
  obtain ⟨a, m1, m2, m3⟩ := hk.get enc w base spare held n cs (by omega) (fun fld' h' => hf fld' (by simp [h']))
  refine ⟨(b, a), ⟨k1, m1⟩, by show (g b ++ f a).length = _; rw [List.length_append]; omega, fun i v c h1 h2 => ?_⟩
  have h2 : (g b ++ f a)[i]? = some c := h2
  rw [List.getElem?_append] at h2
  split at h2
  · rename_i hi
    refine k4 i v c ?_ h2
    rw [List.getElem?_take, if_pos (by omega), List.getElem?_drop]
    exact h1
  · rename_i hi
    refine m3 (i - kt) v c ?_ (by rw [← k3]; exact h2)
    rw [← h1]
    congr 1
    omega

theorem rd_struct {t k : Nat} {fs : Array Field} {α : Type} {f : α → List V} {ok : α → Prop} (ht : P.underlying t = some (.struct fs)) (hc : P.cellsOf t = k) (h : RdF P fs.toList 0 k f ok) : RdT P t k f ok := by
  refine ⟨?_⟩
  intro H enc w base spare held fuel cs x hx
  obtain ⟨xs, n, _, _, hl, hxs, hi⟩ := DataW.trod_struct ht hx
  obtain ⟨a, k1, k2, k3⟩ := h.get enc w base spare held n cs (by omega) (fun fld hf => by
    obtain ⟨i, h2⟩ := List.getElem?_of_mem hf
    have h2 : fs[i]? = some fld := by rw [← Array.getElem?_toList]; exact h2
    have h3 := hi i fld h2
    have h4 := (Array.getElem?_eq_some_iff.1 h2).1
    rw [List.getElem?_eq_getElem (by omega)] at h3
    exact ⟨_, h3⟩)
  exact ⟨a, k1, by omega, k2, fun i v c h1 h2 => k3 i v c (by rw [Nat.zero_add]; exact h1) h2⟩

theorem RdT.map {t k : Nat} {α β : Type} {f : α → List V} {ok : α → Prop} (h : RdT P t k f ok) (φ : α → β) {g : β → List V} {ok' : β → Prop} (hf : ∀ a, f a = g (φ a)) (ho : ∀ a, ok a → ok' (φ a)) : RdT P t k g ok' := by
  refine ⟨?_⟩
  intro H enc w base spare held fuel cs x hx
  obtain ⟨a, k1, k2, k3, k4⟩ := h.get enc w base spare held fuel cs x hx
  exact ⟨φ a, ho a k1, k2, by rw [← hf]; exact k3, fun i v c h1 h2 => k4 i v c h1 (by rw [hf]; exact h2)⟩

/-- An argument that is a struct. -/
theorem RdT.agg {t k : Nat} {α : Type} {f : α → List V} {ok : α → Prop} (h : RdT P t k f ok) {H : Type} {enc : TypeId × Value → H} {w : World} {base : Nat} {spare : Nat → Bool} {held : Bool} {cs : Array Value} {d : DataW H} {ps : List MemPlace} (hx : DataW.Trod enc P w base spare held t (.agg cs) d ps) :
    ∃ a : α, ok a ∧ Rd w (FW w) (.agg cs) (.agg (f a)) := by
  obtain ⟨fuel, hf⟩ := hx
  obtain ⟨a, k1, k2, k3, k4⟩ := h.get enc w base spare held fuel _ _ hf
  have k2 : cs.toList.length = k := k2
  refine ⟨a, k1, .agg (by rw [k3, ← k2]; simp) (fun i v c h1 h2 => (k4 i v c ?_ h2).1)⟩
  show cs.toList[i]? = some v
  rw [Array.getElem?_toList]; exact h1

/-- An argument of one cell. -/
theorem RdT.one {t : Nat} {α : Type} {f : α → V} {ok : α → Prop} (h : RdT P t 1 (fun a => [f a]) ok) {H : Type} {enc : TypeId × Value → H} {w : World} {base : Nat} {spare : Nat → Bool} {held : Bool} {v : Value} {d : DataW H} {ps : List MemPlace} (hx : DataW.Trod enc P w base spare held t v d ps) (hv : v.cells = #[v]) :
    ∃ a : α, ok a ∧ Rd w (FW w) v (f a) := by
  obtain ⟨fuel, hf⟩ := hx
  rw [hv] at hf
  obtain ⟨a, k1, k2, k3, k4⟩ := h.get enc w base spare held fuel _ _ hf
  exact ⟨a, k1, (k4 0 v _ rfl rfl).1⟩
end Go.Ev
namespace Go.Ev
open Go Go.RowKit Go.Proofs

abbrev ez : Ed := ⟨0, 0, []⟩
abbrev fE' (e : Ed) : List V := cE (eB e.s) e
def eES (es : List Ed) : V := .list 3 (es.map fE')
/-- Own edits: their bytes are rows. -/
abbrev rE (e : Ed) : List V := cE (.row 1 (e.s.map cB)) e
abbrev rES (es : List Ed) : Root := ⟨49, 3, es.map rE⟩
def cOE : Option Ed → List V
  | some e => rE e
  | none => [vi 0, vi 0, .val (.slice none 0 0)]

instance : DecidableEq Ed := fun a b => decidable_of_iff (a.at_ = b.at_ ∧ a.n = b.n ∧ a.s = b.s) ⟨fun h => by cases a; cases b; simp_all, fun h => by subst h; exact ⟨rfl, rfl, rfl⟩⟩

theorem qE_eq {a b : Ed} (h : qE a b = true) : a = b := by
  simp only [qE, Bool.and_eq_true, decide_eq_true_eq] at h
  cases a; cases b
  simp_all

def szEF : List Ed → Int → Int
  | [], k => k
  | e :: es, k => if sz1 e.s k < 0 then -1 else szEF es (sz1 e.s k)
def szES (es : List Ed) (k : Int) : Int := if k - es.length < 0 then -1 else szEF es (k - es.length)

theorem c29 (es : List Ed) (k : Int) (hl : es.length ≤ maxLen) (hr : ∀ e, e ∈ es → e.s.length ≤ maxLen) (h0 : 0 ≤ k ∧ k ≤ 1048576) : Good Try.prog 29 [eES es, vi k] (vi (szES es k)) [] := by
  refine good_of (E := En 27) (fn := Try.f29) (by kernel_rfl) (by kernel_rfl) rfl rfl (by simp only [List.length_cons, List.length_nil]; decide) (fun C0 => ?_)
  have hw : IntKind.i64.wrap (k - (es.length : Nat)) = k - (es.length : Nat) := wrap_of (by simp only [maxLen] at hl; omega) (by omega)
  simp only [argT, Nat.reduceAdd, eES]
  refine ev_seq fun K1 h1 => ev_rf mB ?_
  repeat refine dr_act wN mb ma mc mT mR ?_
  refine dr_nil (h1 _ ?_); clear h1 K1
  refine ev_seq fun K1 h1 => ev_rf mB ?_
  repeat refine dr_act wN mb ma mc mT mR ?_
  refine dr_nil (h1 _ ?_); clear h1 K1
  rw [hw]
  refine ev_seq fun K1 h1 => ev_seq fun K2 h2 => ev_rf mB ?_
  repeat refine dr_act wN mb ma mc mT mR ?_
  refine dr_nil (h2 _ ?_); clear h2 K2
  refine ev_cond _ ml (fun h => ?_) (fun h => ev_skip (h1 _ ?_))
  · have hlt := of_decide_eq_true h
    refine ev_seq fun K2 h2 => ev_rf mB ?_
    repeat refine dr_act wN mb ma mc mT mR ?_
    refine dr_nil (h2 _ (ev_ret ?_)); clear h2 h1
    exact retT [4] (hv := by rw [szES, if_pos hlt]; rfl)
  clear h1 K1
  have hge := of_decide_eq_false h
  have hres : szES es k = szEF es (k - (es.length : Nat)) := by rw [szES, if_neg hge]
  rw [hres]
  refine ev_seq fun K1 h1 => ?_
  refine ev_seq fun K2 h2 => ev_rf mB ?_
  repeat refine dr_act wN mb ma mc mT mR ?_
  refine dr_nil (h2 _ ?_); clear h2 K2
  refine ev_block (ev_loop (α := {p : Nat × Int // p.1 ≤ es.length ∧ 0 ≤ p.2 ∧ p.2 ≤ 1048576 ∧ szEF (es.drop p.1) p.2 = szEF es (k - (es.length : Nat))}) (fun p => ⟨[(0, .list 3 (es.map fE')), (1, vi p.1.2), (5, vi p.1.1)], [], 72⟩) (fun p => es.length - p.1.1) ⟨(0, k - (es.length : Nat)), Nat.zero_le _, by show 0 ≤ k - _; omega, by show k - _ ≤ _; omega, rfl⟩ (weak_ren [] mK mK mD mQ) (fun ⟨(i, x), hi, hx0, hx1, hx⟩ => ?_))
  refine ev_seq fun K2 h2 => ev_seq fun K3 h3 => ev_rf mB ?_
  repeat refine dr_act wN mb ma mc mT mR ?_
  refine dr_nil (h3 _ ?_); clear h3
  refine ev_cond _ ml (fun h => ev_skip (h2 _ ?_)) (fun h => ev_exit ?_)
  · clear h1 h2
    have hlt : i < es.length := by have := of_decide_eq_true h; simp only at hi; omega
    have hd : es.drop i = es.getD i ez :: es.drop (i + 1) := by
      rw [List.drop_eq_getElem_cons hlt, List.getD_eq_getElem?_getD, List.getElem?_eq_getElem hlt]; rfl
    have hri : (es.getD i ez).s.length ≤ maxLen := hr _ (by rw [List.getD_eq_getElem?_getD, List.getElem?_eq_getElem hlt]; exact List.getElem_mem hlt)
    simp only [hd, szEF] at hx
    refine ev_seq fun K2 h2 => ev_block (ev_seq fun K3 h3 => ev_rf mB ?_)
    repeat refine dr_act wN mb ma mc mT mR ?_
    refine dr_ix (ez : Ed) wN mr mb ml ml mS (by omega) mT ?_
    repeat refine dr_act wN mb ma mc mT mR ?_
    refine dr_callF wN mr mb mx mr (c23 (es.getD i ez) x hri ⟨hx0, hx1⟩) (Nat.le_of_ble_eq_true rfl) mv mT mN ?_
    repeat refine dr_act wN mb ma mc mT mR ?_
    refine dr_nil (h3 _ ?_); clear h3
    refine ev_seq fun K3 h3 => ev_rf mB ?_
    repeat refine dr_act wN mb ma mc mT mR ?_
    refine dr_nil (h3 _ ?_); clear h3
    refine ev_cond _ ml (fun h => ?_) (fun h => ev_skip ?_)
    · have hneg := of_decide_eq_true h
      refine ev_seq fun K3 h3 => ev_rf mB ?_
      repeat refine dr_act wN mb ma mc mT mR ?_
      refine dr_nil (h3 _ (ev_ret ?_)); clear h3 h2
      exact retT [4] (hv := by rw [← hx, if_pos hneg]; rfl)
    · have hpos := of_decide_eq_false h
      refine h2 _ (ev_rf mB ?_); clear h2
      repeat refine dr_act wN mb ma mc mT mR ?_
      refine dr_nil ⟨⟨(i + 1, sz1 (es.getD i ez).s x), hlt, by show 0 ≤ sz1 _ _; omega, by have := sz1_le (xs := (es.getD i ez).s) (k := x) (by omega); show sz1 _ _ ≤ _; omega, by rw [if_neg hpos] at hx; exact hx⟩, by simp only []; omega, ?_⟩
      rw [w64p (n := es.length) hlt (by simp only [maxLen] at hl; omega)]
      exact weak_ren [] mK mK mD mQ
  · simp only [seqK, loopK, blkK, ↓reduceIte]
    refine h1 _ ?_; clear h1 h2
    have hge := of_decide_eq_false h
    have hi' : i = es.length := by simp only at hi; omega
    simp only [hi', List.drop_length, szEF] at hx
    refine ev_seq fun K1 h1 => ev_rf mB ?_
    repeat refine dr_act wN mb ma mc mT mR ?_
    refine dr_nil (h1 _ (ev_ret ?_)); clear h1
    exact retT [4] (hv := by rw [← hx]; rfl)

theorem c31 (es : List Ed) (hl : es.length ≤ 1048576) (hr : ∀ e, e ∈ es → e.s.length ≤ 1048576) : Good Try.prog 31 [eES es] (.ref (0, none) 0 es.length) [rES es] := by
  refine good_of (E := En 23) (fn := Try.f31) (by kernel_rfl) (by kernel_rfl) rfl rfl (by simp only [List.length_cons, List.length_nil]; decide) (fun C0 => ?_)
  simp only [argT, Nat.reduceAdd, eES]
  refine ev_seq fun K1 h1 => ev_rf mB ?_
  repeat refine dr_act wN mb ma mc mT mR ?_
  refine dr_nil (h1 _ ?_); clear h1 K1
  refine ev_seq fun K1 h1 => ev_rf mB ?_
  repeat refine dr_act wN mb ma mc mT mR ?_
  refine dr_act wN mb ma (by omega) mT mR ?_
  repeat refine dr_act wN mb ma mc mT mR ?_
  refine dr_nil (h1 _ ?_); clear h1 K1
  refine ev_seq fun K1 h1 => ?_
  refine ev_seq fun K2 h2 => ev_rf mB ?_
  repeat refine dr_act wN mb ma mc mT mR ?_
  refine dr_nil (h2 _ ?_); clear h2 K2
  have hlm : (es.map some).length = es.length := List.length_map ..
  refine ev_block (ev_loop (α := {i : Nat // i ≤ es.length}) (fun i => ⟨[(0, .list 3 (es.map fE')), (3, .ref (24, none) 0 es.length), (4, vi i.1)], [(24, ⟨49, 3, (soFar none (es.map some) i.1).map cOE⟩)], 48⟩) (fun i => es.length - i.1) ⟨0, Nat.zero_le _⟩ (weak_ren [] mK (chkRm rfl (by decide) (by rw [soFar_zero, List.map_replicate, hlm]; rfl) (fun a => by cases a <;> rfl) (fun a => by cases a <;> simp [cOE, okC]) mK) mD mQ) (fun ⟨i, hi⟩ => ?_))
  refine ev_seq fun K2 h2 => ev_seq fun K3 h3 => ev_rf mB ?_
  repeat refine dr_act wN mb ma mc mT mR ?_
  refine dr_nil (h3 _ ?_); clear h3
  refine ev_cond _ ml (fun h => ev_skip (h2 _ ?_)) (fun h => ev_exit ?_)
  · clear h1 h2
    have hlt : i < es.length := by have := of_decide_eq_true h; omega
    have hsl : (soFar none (es.map some) i).length = es.length := by rw [soFar_length (by omega), hlm]
    refine ev_seq fun K2 h2 => ev_block (ev_rf mB ?_)
    repeat refine dr_act wN mb ma mc mT mR ?_
    refine dr_ix (ez : Ed) wN mr mb ml ml mS (by omega) mT ?_
    repeat refine dr_act wN mb ma mc mT mR ?_
    have hri : (es.getD i ez).s.length ≤ 1048576 := by
      rw [List.getD_eq_getElem?_getD, List.getElem?_eq_getElem hlt]; exact hr _ (List.getElem_mem hlt)
    refine dr_callF wN mr mb mx mr (c25 (es.getD i ez) hri) (Nat.le_of_ble_eq_true rfl) mv mT mN ?_
    refine dr_ixp wN mr mb ml ml mr mS (by omega) (Nat.zero_add _) mT ?_
    refine dr_stp (zs := ((soFar none (es.map some) i).map cOE).set i [vi (es.getD i ez).at_, vi (es.getD i ez).n, .ref (128, none) 0 (es.getD i ez).s.length]) wN mr mb ml mr mr ml ⟨rfl, rfl⟩ mZ ⟨by rw [List.length_map, Int.toNat_natCast, hsl]; exact hlt, Nat.le_refl 3⟩ ?_ mr mT mR ?_
    · rw [Int.toNat_natCast]
      congr 1
      rw [getD_mapL none [] (by omega)]
      have : (soFar none (es.map some) i).getD i none = none := by
        simp [soFar, List.getD_eq_getElem?_getD, List.getElem?_append, hlt, Nat.min_eq_left (Nat.le_of_lt hlt), List.getElem?_replicate]
        split <;> rfl
      rw [this]; rfl
    refine dr_nil (h2 _ (ev_rf mB ?_)); clear h2
    repeat refine dr_act wN mb ma mc mT mR ?_
    refine dr_nil ⟨⟨i + 1, by omega⟩, by simp only []; omega, ?_⟩
    rw [w64p (n := es.length) (by omega) (by omega)]
    have hset : (((soFar none (es.map some) i).map cOE).set i [vi (es.getD i ez).at_, vi (es.getD i ez).n, .ref (128, none) 0 (es.getD i ez).s.length])[i]? = some [vi (es.getD i ez).at_, vi (es.getD i ez).n, .ref (128, none) 0 (es.getD i ez).s.length] := by
      rw [List.getElem?_set, if_pos rfl, if_pos (by rw [List.length_map, hsl]; exact hlt)]
    refine weak_trans (weak_abs 24 128 i 2 (b' := 1000) mr mr (by decide) hset rfl (List.length_map ..).symm (by simp [noN0]) rfl rfl (by decide)) ?_
    refine weak_ren [(24, 176)] mK (chkRm rfl (by decide) ?_ (fun a => by cases a <;> rfl) (fun a => by cases a <;> simp [cOE, okC]) mK) mD mQ
    have e1 : (es.map some).getD i none = some (es.getD i ez) := by simp [List.getD_eq_getElem?_getD, hlt]
    rw [← soFar_set (d := none) (by omega), e1, ← set_map]
    simp only [absR, setP, getD_of_get hset, List.set_set, List.set_cons_zero, List.set_cons_succ]
    rfl
  · simp only [seqK, loopK, blkK, ↓reduceIte]
    refine h1 _ ?_; clear h1 h2
    have hge := of_decide_eq_false h
    obtain rfl : i = es.length := by omega
    refine ev_seq fun K1 h1 => ev_rf mB ?_
    repeat refine dr_act wN mb ma mc mT mR ?_
    refine dr_nil (h1 _ (ev_ret ?_)); clear h1
    refine retR [24] [2] (hv := rfl) (hR := ⟨⟨?_, ?_⟩, trivial⟩)
    · show some (Root.mk 49 3 ((soFar none (es.map some) es.length).map cOE)) = _
      rw [← hlm, soFar_full, List.map_map]; rfl
    · refine pure_map fun r => ?_
      simp [pcell]

theorem c33 (a b : List Ed) (hl : a.length ≤ maxLen ∧ ∀ e, e ∈ a → e.s.length ≤ maxLen) : Good Try.prog 33 [eES a, eES b] (vb (decide (a = b))) [] := by
  refine good_of (E := En 27) (fn := Try.f33) (by kernel_rfl) (by kernel_rfl) rfl rfl (by simp only [List.length_cons, List.length_nil]; decide) (fun C0 => ?_)
  simp only [argT, Nat.reduceAdd, eES]
  refine ev_seq fun K1 h1 => ev_rf mB ?_
  repeat refine dr_act wN mb ma mc mT mR ?_
  refine dr_nil (h1 _ ?_); clear h1 K1
  refine ev_seq fun K1 h1 => ev_seq fun K2 h2 => ev_rf mB ?_
  repeat refine dr_act wN mb ma mc mT mR ?_
  refine dr_nil (h2 _ ?_); clear h2 K2
  refine ev_cond _ ml (fun h => ?_) (fun h => ev_skip (h1 _ ?_))
  · refine ev_seq fun K2 h2 => ev_rf mB ?_
    repeat refine dr_act wN mb ma mc mT mR ?_
    refine dr_nil (h2 _ (ev_ret ?_)); clear h2 h1
    have e : ¬ a = b := fun e => by subst e; simp at h
    exact retT [4] (hv := by rw [decide_eq_false e]; rfl)
  have hlen : a.length = b.length := by
    have : ((a.length : Int) = b.length) := by simpa using h
    omega
  clear h1 K1 h
  refine ev_seq fun K1 h1 => ?_
  refine ev_seq fun K2 h2 => ev_rf mB ?_
  repeat refine dr_act wN mb ma mc mT mR ?_
  refine dr_nil (h2 _ ?_); clear h2 K2
  refine ev_block (ev_loop (α := {i : Nat // i ≤ a.length ∧ a.take i = b.take i}) (fun i => ⟨[(0, .list 3 (a.map fE')), (1, .list 3 (b.map fE')), (5, vi i.1)], [], 56⟩) (fun i => a.length - i.1) ⟨0, Nat.zero_le _, rfl⟩ (weak_ren [] mK mK mD mQ) (fun ⟨i, hi, ht⟩ => ?_))
  refine ev_seq fun K2 h2 => ev_seq fun K3 h3 => ev_rf mB ?_
  repeat refine dr_act wN mb ma mc mT mR ?_
  refine dr_nil (h3 _ ?_); clear h3
  refine ev_cond _ ml (fun h => ev_skip (h2 _ ?_)) (fun h => ev_exit ?_)
  · clear h1 h2
    have hlt : i < a.length := by have := of_decide_eq_true h; omega
    have hai : (a.getD i ez).s.length ≤ maxLen := hl.2 _ (by rw [List.getD_eq_getElem?_getD, List.getElem?_eq_getElem hlt]; exact List.getElem_mem hlt)
    refine ev_seq fun K2 h2 => ev_block (ev_seq fun K3 h3 => ev_reg mB ?_)
    repeat refine dr_act wN mb ma mc mT mR ?_
    refine dr_ix (ez : Ed) wN mr mb ml ml mS (by omega) mT ?_
    repeat refine dr_act wN mb ma mc mT mR ?_
    refine dr_ix (ez : Ed) wN mr mb ml ml mS (by omega) mT ?_
    repeat refine dr_act wN mb ma mc mT mR ?_
    refine dr_callF wN mr mb mx mr (c27 (a.getD i ez) (b.getD i ez) hai) (Nat.le_of_ble_eq_true rfl) mv mT mN ?_
    repeat refine dr_act wN mb ma mc mT mR ?_
    refine dr_nil ⟨fun _ => by kernel_rfl, h3 _ ?_⟩; clear h3
    refine ev_cond _ ml (fun h => ?_) (fun h => ev_skip ?_)
    · refine ev_seq fun K3 h3 => ev_rf mB ?_
      repeat refine dr_act wN mb ma mc mT mR ?_
      refine dr_nil (h3 _ (ev_ret ?_)); clear h3 h2
      have e : ¬ a = b := fun e => by subst e; rw [qE_self] at h; simp at h
      exact retT [4] (hv := by rw [decide_eq_false e]; rfl)
    · have e : a.getD i ez = b.getD i ez := qE_eq (by simpa using h)
      refine h2 _ (ev_rf mB ?_); clear h2
      repeat refine dr_act wN mb ma mc mT mR ?_
      refine dr_nil ⟨⟨i + 1, hlt, take_eq_succ ez hlen hlt ht e⟩, by simp only []; omega, ?_⟩
      rw [w64p (n := a.length) hlt (by have := hl.1; simp only [maxLen] at this; omega)]
      exact weak_ren [] mK mK mD mQ
  · simp only [seqK, loopK, blkK, ↓reduceIte]
    refine h1 _ ?_; clear h1 h2
    have hge := of_decide_eq_false h
    obtain rfl : i = a.length := by omega
    have e : a = b := by
      rw [List.take_length] at ht
      rw [ht, hlen, List.take_length]
    refine ev_seq fun K1 h1 => ev_rf mB ?_
    repeat refine dr_act wN mb ma mc mT mR ?_
    refine dr_nil (h1 _ (ev_ret ?_)); clear h1
    exact retT [4] (hv := by rw [decide_eq_true e]; rfl)
end Go.Ev
namespace Go.Ev
open Go Go.RowKit Go.Proofs

/-- A root that has a row of bytes in a cell. -/
structure RowOf (Rt : List Int → Root) (a j : Nat) : Prop where
  get : ∀ (R : Rs) n xs, R n = some (Rt xs) → getP R (n, some (a, j)) = some (1, xs.map cB)
  set : ∀ xs ys, setP (Rt xs) (some (a, j)) (ys.map cB) = Rt ys
  ren : ∀ (xs : List Int) (ρ : Nat → Nat), rnR ρ (Rt xs) = Rt xs
  ty : ∀ xs ys, (Rt xs).ty = (Rt ys).ty
  sz : ∀ xs ys, (Rt xs).sz = (Rt ys).sz
  ok : ∀ xs (bd : Nat), (Rt xs).els.all (·.all (okC false bd)) = true

theorem RowOf.els {Rt : List Int → Root} {a j : Nat} (h : RowOf Rt a j) (xs : List Int) (ρ : Nat → Nat) : (Rt xs).els = (Rt xs).els.map (·.map (rnC ρ)) := (congrArg Root.els (h.ren xs ρ)).symm
theorem RowOf.hand {Rt : List Int → Root} {a j : Nat} (h : RowOf Rt a j) {R : Rs} {n : Nat} {xs : List Int} (hr : R n = some (Rt xs)) : HandL R [n] 1 [n] [Rt xs] := ⟨⟨_, hr, rfl, rfl, h.els _ _, h.ok _ _⟩, trivial⟩
theorem RowOf.wr {Rt : List Int → Root} {a j : Nat} (h : RowOf Rt a j) {R : List (Nat × Root)} {n b : Nat} {xs : List Int} : applyW R (wrR [n] [] b [some (Rt xs)]) = (n, Rt xs) :: dropR R n := by
  simp only [wrR, newR, upN, List.map_nil, List.nil_append, Option.map_some, h.ren]
  rfl

theorem c21g (Rt : List Int → Root) (a j : Nat) (ro : RowOf Rt a j) (xs : List Int) (k : Int) (hk : 0 ≤ k) (hk2 : k + xs.length ≤ 4000000) :
    GoodR Try.prog 21 [.ref (0, some (a, j)) 0 xs.length, vi k] [Rt xs] (vi (k + xs.length)) [some (Rt (mk8 k xs.length))] := by
  refine goodR_of (E := En 20 1) (fn := Try.f21) (by kernel_rfl) (by kernel_rfl) rfl rfl (by simp only [List.length_cons, List.length_nil]; decide) ⟨rfl, Nat.le_refl 1⟩ rfl ⟨ro.ok _ _, trivial⟩ (fun C0 => ?_)
  simp only [argT, rsT, Nat.reduceAdd, List.length_cons, List.length_nil]
  refine ev_seq fun K1 h1 => ev_rf mB ?_
  repeat refine dr_act wN mb ma mc mT mR ?_
  refine dr_nil (h1 _ ?_); clear h1 K1
  refine ev_seq fun K1 h1 => ?_
  refine ev_seq fun K2 h2 => ev_rf mB ?_
  repeat refine dr_act wN mb ma mc mT mR ?_
  refine dr_nil (h2 _ ?_); clear h2 K2
  refine ev_block (ev_loop (α := {i : Nat // i ≤ xs.length}) (fun i => ⟨[(0, .ref (0, some (a, j)) 0 xs.length), (1, vi (k + (i.1 : Nat))), (5, vi i.1)], [(0, Rt (mk8 k i.1 ++ xs.drop i.1))], 17⟩) (fun i => xs.length - i.1) ⟨0, Nat.zero_le _⟩ (weak_ren [] ?_ ⟨⟨by decide, _, rfl, ro.ty _ _, ro.sz _ _, ?_, ro.ok _ _⟩, trivial⟩ mD mQ) (fun ⟨i, hi⟩ => ?_))
  · simp only [Int.natCast_zero, Int.add_zero]; exact mK
  · have e : mk8 k 0 ++ xs.drop 0 = xs := by simp [mk8]
    rw [e]; exact ro.els _ _
  have hmm : (mk8 k i ++ xs.drop i).length = xs.length := by simp [mk8]; omega
  refine ev_seq fun K2 h2 => ev_seq fun K3 h3 => ev_rf mB ?_
  repeat refine dr_act wN mb ma mc mT mR ?_
  refine dr_nil (h3 _ ?_); clear h3
  refine ev_cond _ ml (fun h => ev_skip (h2 _ ?_)) (fun h => ev_exit ?_)
  · clear h1 h2
    have hlt : i < xs.length := by have := of_decide_eq_true h; omega
    refine ev_seq fun K2 h2 => ev_block (ev_seq fun K3 h3 => ev_rf mB ?_)
    repeat refine dr_act wN mb ma mc mT mR ?_
    refine dr_ixp wN mr mb ml ml (ro.get _ _ _ mr) mS (by omega) (Nat.zero_add _) mT ?_
    refine dr_stp (zs := (mk8 k (i + 1) ++ xs.drop (i + 1)).map cB) (r' := Rt (mk8 k (i + 1) ++ xs.drop (i + 1))) wN mr mb ml (ro.get _ _ _ mr) mr ml ⟨rfl, rfl⟩ mZ ⟨by rw [List.length_map, Int.toNat_natCast, hmm]; exact hlt, Nat.le_refl 1⟩ ?_ (ro.set _ _) mT mR ?_
    · rw [Int.toNat_natCast, ← mk8_set hlt]
      exact set_put 0 (by rw [hmm]; exact hlt) rfl
    refine dr_nil (h3 _ (ev_rf mB ?_)); clear h3
    repeat refine dr_act wN mb ma mc mT mR ?_
    refine dr_nil (h2 _ (ev_rf mB ?_)); clear h2
    repeat refine dr_act wN mb ma mc mT mR ?_
    refine dr_nil ⟨⟨i + 1, by omega⟩, by simp only []; omega, ?_⟩
    rw [w64p (n := xs.length) (by omega) (by omega), wk hlt hk hk2]
    exact weak_ren [] mK ⟨⟨by decide, _, rfl, rfl, rfl, ro.els _ _, ro.ok _ _⟩, trivial⟩ mD mQ
  · simp only [seqK, loopK, blkK, ↓reduceIte]
    refine h1 _ ?_; clear h1 h2
    have hge := of_decide_eq_false h
    obtain rfl : i = xs.length := by omega
    refine ev_seq fun K1 h1 => ev_rf mB ?_
    repeat refine dr_act wN mb ma mc mT mR ?_
    refine dr_nil (h1 _ (ev_ret ?_)); clear h1
    refine retRT [] [4] (hR := ⟨⟨_, rfl, ro.ty _ _, ro.sz _ _, ?_⟩, trivial⟩)
    rw [List.drop_length, List.append_nil]
    exact ro.els _ _

theorem okES {es : List Ed} {bd : Nat} : (es.map rE).all (·.all (okC false bd)) = true := okMap (fun _ => by simp [okC]) es

theorem rowE {es : List Ed} {i : Nat} (hi : i < es.length) (p q : Int) : RowOf (fun xs => rES (es.set i ⟨p, q, xs⟩)) i 2 where
  get R n xs h := by
    refine (getP_map (d := ez) (g := rE) (ys := es.set i ⟨p, q, xs⟩) h (by rw [List.length_set]; exact hi) ?_)
    rw [getD_set hi]; rfl
  set xs ys := by
    simp only [setP]
    rw [getD_mapL ez [] (by rw [List.length_set]; exact hi), getD_set hi]
    show Root.mk 49 3 (((es.set i ⟨p, q, xs⟩).map rE).set i (rE ⟨p, q, ys⟩)) = _
    rw [set_map, List.set_set]
  ren xs ρ := by
    show Root.mk 49 3 (((es.set i ⟨p, q, xs⟩).map rE).map (·.map (rnC ρ))) = _
    rw [← rnMap (fun _ => rfl)]
  ty xs ys := rfl
  sz xs ys := rfl
  ok xs bd := okES

/-- All edits marked. -/
def mkE (k : Int) : List Ed → List Ed
  | [] => []
  | e :: es => ⟨k, k + 1, mk8 (k + 2) e.s.length⟩ :: mkE (k + 2 + e.s.length) es
def totE : List Ed → Nat
  | [] => 0
  | e :: es => 2 + e.s.length + totE es

theorem mkE_length (k : Int) : ∀ es : List Ed, (mkE k es).length = es.length
  | [] => rfl
  | e :: es => by simp only [mkE, List.length_cons, mkE_length _ es]
theorem totE_app : ∀ (a b : List Ed), totE (a ++ b) = totE a + totE b
  | [], b => by simp [totE]
  | x :: a, b => by simp only [List.cons_append, totE, totE_app a b]; omega
theorem mkE_app (e : Ed) : ∀ (a : List Ed) (k : Int), mkE k (a ++ [e]) = mkE k a ++ [⟨k + totE a, k + totE a + 1, mk8 (k + totE a + 2) e.s.length⟩]
  | [], k => by simp [mkE, totE]
  | x :: a, k => by
    simp only [List.cons_append, mkE, mkE_app e a, totE]
    have e1 : k + 2 + (x.s.length : Nat) + (totE a : Nat) = k + ((2 + x.s.length + totE a : Nat) : Int) := by omega
    rw [e1]
theorem take_e {es : List Ed} {i : Nat} (h : i < es.length) : es.take (i + 1) = es.take i ++ [es.getD i ez] := by
  rw [List.take_succ_eq_append_getElem h, List.getD_eq_getElem?_getD, List.getElem?_eq_getElem h]; rfl
theorem drop_e {es : List Ed} {i : Nat} (h : i < es.length) : es.drop i = es.getD i ez :: es.drop (i + 1) := by
  rw [List.drop_eq_getElem_cons h, List.getD_eq_getElem?_getD, List.getElem?_eq_getElem h]; rfl
theorem totE_le {es : List Ed} {i : Nat} (h : i < es.length) : totE (es.take i) + (2 + (es.getD i ez).s.length) ≤ totE es := by
  have e : es = es.take i ++ es.drop i := (List.take_append_drop i es).symm
  have := congrArg totE e
  rw [totE_app, drop_e h] at this
  simp only [totE] at this
  omega

theorem c34 (es : List Ed) (k : Int) (hl : es.length ≤ 1048576) (hk : 0 ≤ k) (hk2 : k + totE es ≤ 4000000) :
    GoodR Try.prog 34 [.ref (0, none) 0 es.length, vi k] [rES es] (vi (k + totE es)) [some (rES (mkE k es))] := by
  refine goodR_of (E := En 34 1) (fn := Try.f34) (by kernel_rfl) (by kernel_rfl) rfl rfl (by simp only [List.length_cons, List.length_nil]; decide) ⟨rfl, Nat.le_refl 1⟩ rfl ⟨okES, trivial⟩ (fun C0 => ?_)
  simp only [argT, rsT, Nat.reduceAdd, List.length_cons, List.length_nil]
  refine ev_seq fun K1 h1 => ev_rf mB ?_
  repeat refine dr_act wN mb ma mc mT mR ?_
  refine dr_nil (h1 _ ?_); clear h1 K1
  refine ev_seq fun K1 h1 => ?_
  refine ev_seq fun K2 h2 => ev_rf mB ?_
  repeat refine dr_act wN mb ma mc mT mR ?_
  refine dr_nil (h2 _ ?_); clear h2 K2
  refine ev_block (ev_loop (α := {i : Nat // i ≤ es.length}) (fun i => ⟨[(0, .ref (0, none) 0 es.length), (1, vi (k + (totE (es.take i.1) : Nat))), (5, vi i.1)], [(0, rES (mkE k (es.take i.1) ++ es.drop i.1))], 17⟩) (fun i => es.length - i.1) ⟨0, Nat.zero_le _⟩ (weak_ren [] ?_ (chkRm rfl (by decide) (by simp [mkE]) (fun _ => rfl) (fun a => by simp [okC]) mK) mD mQ) (fun ⟨i, hi⟩ => ?_))
  · simp only [List.take_zero, totE, Int.natCast_zero, Int.add_zero]; exact mK
  have hcl : (mkE k (es.take i) ++ es.drop i).length = es.length := by rw [List.length_append, mkE_length, List.length_take, List.length_drop]; omega
  refine ev_seq fun K2 h2 => ev_seq fun K3 h3 => ev_rf mB ?_
  repeat refine dr_act wN mb ma mc mT mR ?_
  refine dr_nil (h3 _ ?_); clear h3
  refine ev_cond _ ml (fun h => ev_skip (h2 _ ?_)) (fun h => ev_exit ?_)
  · clear h1 h2
    have hlt : i < es.length := by have := of_decide_eq_true h; omega
    have htl := totE_le hlt
    have hml : (mkE k (es.take i)).length = i := by rw [mkE_length, List.length_take]; omega
    have hci : (mkE k (es.take i) ++ es.drop i).getD i ez = es.getD i ez := by
      rw [List.getD_eq_getElem?_getD, List.getElem?_append_right (by omega), hml, Nat.sub_self, List.getElem?_drop, Nat.add_zero, ← List.getD_eq_getElem?_getD]
    have e1 : k + (totE (es.take i) : Nat) + 2 + ((es.getD i ez).s.length : Nat) = k + (totE (es.take (i + 1)) : Nat) := by
      rw [take_e hlt, totE_app]; simp only [totE]; omega
    have e2 : (mkE k (es.take i) ++ es.drop i).set i ⟨k + (totE (es.take i) : Nat), k + (totE (es.take i) : Nat) + 1, mk8 (k + (totE (es.take i) : Nat) + 2) (es.getD i ez).s.length⟩ = mkE k (es.take (i + 1)) ++ es.drop (i + 1) := by
      rw [List.set_append, if_neg (by omega), hml, Nat.sub_self, drop_e hlt, List.set_cons_zero, take_e hlt, mkE_app, List.append_assoc]
      rfl
    have w1 : IntKind.i64.wrap (k + (totE (es.take i) : Nat) + 1) = k + (totE (es.take i) : Nat) + 1 := wrap_of (by omega) (by omega)
    have w2 : IntKind.i64.wrap (k + (totE (es.take i) : Nat) + 1 + 1) = k + (totE (es.take i) : Nat) + 2 := by rw [wrap_of (by omega) (by omega)]; omega
    generalize hcur : mkE k (es.take i) ++ es.drop i = cur at *
    generalize hx : k + (totE (es.take i) : Nat) = x at *
    generalize es.getD i ez = e at *
    refine ev_seq fun K2 h2 => ev_block (ev_seq fun K3 h3 => ev_rf mB ?_)
    repeat refine dr_act wN mb ma mc mT mR ?_
    refine dr_ixp wN mr mb ml ml mr mS (by omega) (Nat.zero_add _) mT ?_
    repeat refine dr_act wN mb ma mc mT mR ?_
    refine dr_stp (zs := (cur.set i ⟨x, e.n, e.s⟩).map rE) (r' := rES (cur.set i ⟨x, e.n, e.s⟩)) wN mr mb ml mr mr ml ⟨rfl, rfl⟩ mZ ⟨by rw [List.length_map]; omega, Nat.le_of_ble_eq_true rfl⟩ ?_ rfl mT mR ?_
    · try rw [Int.toNat_natCast]
      exact set_put ez (by omega) (by rw [hci]; rfl)
    refine dr_nil (h3 _ ?_); clear h3
    refine ev_seq fun K3 h3 => ev_rf mB ?_
    repeat refine dr_act wN mb ma mc mT mR ?_
    rw [w1]
    refine dr_nil (h3 _ ?_); clear h3
    refine ev_seq fun K3 h3 => ev_rf mB ?_
    repeat refine dr_act wN mb ma mc mT mR ?_
    refine dr_ixp wN mr mb ml ml mr mS (by omega) (Nat.zero_add _) mT ?_
    repeat refine dr_act wN mb ma mc mT mR ?_
    refine dr_stp (zs := (cur.set i ⟨x, x + 1, e.s⟩).map rE) (r' := rES (cur.set i ⟨x, x + 1, e.s⟩)) wN mr mb ml mr mr ml ⟨rfl, rfl⟩ mZ ⟨by rw [List.length_map, List.length_set]; omega, Nat.le_of_ble_eq_true rfl⟩ ?_ rfl mT mR ?_
    · try rw [Int.toNat_natCast]
      rw [show cur.set i ⟨x, x + 1, e.s⟩ = (cur.set i ⟨x, e.n, e.s⟩).set i ⟨x, x + 1, e.s⟩ by rw [List.set_set]]
      exact set_put ez (by rw [List.length_set]; omega) (by rw [getD_set (by omega)]; rfl)
    refine dr_nil (h3 _ ?_); clear h3
    refine ev_seq fun K3 h3 => ev_rf mB ?_
    repeat refine dr_act wN mb ma mc mT mR ?_
    rw [w2]
    refine dr_nil (h3 _ ?_); clear h3
    have hrow := rowE (es := cur) (i := i) (by omega) x (x + 1)
    refine ev_rf mB ?_
    repeat refine dr_act wN mb ma mc mT mR ?_
    refine dr_ixp wN mr mb ml ml mr mS (by omega) (Nat.zero_add _) mT ?_
    repeat refine dr_act wN mb ma mc mT mR ?_
    try rw [Int.toNat_natCast]
    refine dr_ldp (g := rE) (ys := cur.set i ⟨x, x + 1, e.s⟩) ez (v := .ref (0, some (i, 2)) 0 e.s.length) wN mr mb ml mr (by rw [List.length_set]; omega) ⟨by decide, Nat.le_of_ble_eq_true rfl⟩ (by
      rw [getD_set (by omega)]
      show some (V.ref (0, some (i, 2)) 0 (e.s.map cB).length) = _
      rw [List.length_map]) mT ?_
    repeat refine dr_act wN mb ma mc mT mR ?_
    refine dr_callR [0] [] wN mr mb mx (c21g _ i 2 hrow e.s (x + 2) (by omega) (by omega)) (.ren rfl rfl (.ren rfl rfl .nil)) (hrow.hand mr) ⟨⟨by decide, nz⟩, Nat.le_of_ble_eq_true rfl⟩ (v := vi (x + 2 + e.s.length)) rfl mT (hrow.wr.trans mRd) ?_
    repeat refine dr_act wN mb ma mc mT mR ?_
    refine dr_nil (h2 _ (ev_rf mB ?_)); clear h2
    repeat refine dr_act wN mb ma mc mT mR ?_
    refine dr_nil ⟨⟨i + 1, by omega⟩, by simp only []; omega, ?_⟩
    rw [w64p (n := es.length) (by omega) (by omega), e1, e2]
    exact weak_ren [] mK (chkRm rfl (by decide) rfl (fun _ => rfl) (fun a => by simp [okC]) mK) mD mQ
  · simp only [seqK, loopK, blkK, ↓reduceIte]
    refine h1 _ ?_; clear h1 h2
    have hge := of_decide_eq_false h
    obtain rfl : i = es.length := by omega
    simp only [List.take_length, List.drop_length, List.append_nil]
    refine ev_seq fun K1 h1 => ev_rf mB ?_
    repeat refine dr_act wN mb ma mc mT mR ?_
    refine dr_nil (h1 _ (ev_ret ?_)); clear h1
    exact retRT [] [4] (hR := ⟨⟨_, rfl, rfl, rfl, rnMap (g := rE) (fun _ => rfl) _⟩, trivial⟩)
end Go.Ev
namespace Go.Ev
open Go Go.RowKit Go.Proofs

theorem c204 (m : List (List Int)) (a : Int) (hl : m.length ≤ 1048576) : Good Try.prog 204 [eMem m, vi a] (vb (decide (0 ≤ a ∧ a ≤ (m.length : Nat) - 1))) [] := by
  refine good_of (E := En 11) (fn := Try.f204) (by kernel_rfl) (by kernel_rfl) rfl rfl (by simp only [List.length_cons, List.length_nil]; decide) (fun C0 => ?_)
  have w1 : IntKind.i64.wrap ((m.length : Nat) - 1) = (m.length : Nat) - 1 := wrap_of (by omega) (by omega)
  simp only [argT, Nat.reduceAdd]
  refine ev_seq fun K1 h1 => ev_rf mB ?_
  repeat refine dr_act wN mb ma mc mT mR ?_
  refine dr_nil (h1 _ ?_); clear h1 K1
  refine ev_seq fun K1 h1 => ev_rf mB ?_
  repeat refine dr_act wN mb ma mc mT mR ?_
  rw [w1]
  refine dr_callF wN mr mb mx mr (c123 a 0 _) (Nat.le_of_ble_eq_true rfl) mv mT mN ?_
  repeat refine dr_act wN mb ma mc mT mR ?_
  refine dr_nil (h1 _ (ev_ret ?_)); clear h1
  exact retT [4] (hv := rfl)

def hasW (m : List (List Int)) (w : Win) : Bool :=
  decide (0 ≤ w.a ∧ w.a ≤ (m.length : Nat) - 1) && decide (0 ≤ w.c ∧ w.c ≤ 64) && decide (0 ≤ w.n ∧ w.n ≤ w.c) && decide (0 ≤ w.s ∧ w.s ≤ (m.getD w.a.toNat []).length - w.c)

theorem c188 (m : List (List Int)) (w : Win) (hl1 : m.length ≤ 1048576) (hl2 : ∀ r, r ∈ m → r.length ≤ 1048576) : Good Try.prog 188 [eMem m, eW w] (vb (hasW m w)) [] := by
  refine good_of (E := En 36) (fn := Try.f188) (by kernel_rfl) (by kernel_rfl) rfl rfl (by simp only [List.length_cons, List.length_nil]; decide) (fun C0 => ?_)
  simp only [argT, Nat.reduceAdd]
  refine ev_seq fun K1 h1 => ev_rf mB ?_
  repeat refine dr_act wN mb ma mc mT mR ?_
  refine dr_nil (h1 _ ?_); clear h1 K1
  refine ev_seq fun K1 h1 => ev_reg mB ?_
  repeat refine dr_act wN mb ma mc mT mR ?_
  refine dr_callF wN mr mb mx mr (c204 m w.a hl1) (Nat.le_of_ble_eq_true rfl) mv mT mN ?_
  repeat refine dr_act wN mb ma mc mT mR ?_
  cases hA : decide (0 ≤ w.a ∧ w.a ≤ (m.length : Nat) - 1)
  · iterate 3 refine dr_skip wG mT ?_
    repeat refine dr_act wN mb ma mc mT mR ?_
    iterate 5 refine dr_skip wG mT ?_
    repeat refine dr_act wN mb ma mc mT mR ?_
    iterate 13 refine dr_skip wG mT ?_
    repeat refine dr_act wN mb ma mc mT mR ?_
    refine dr_nil ⟨fun _ => by kernel_rfl, h1 _ (ev_ret ?_)⟩; clear h1
    exact retT [4] (hv := by rw [hasW, hA]; rfl)
  have ha := of_decide_eq_true hA
  have hrow : (m.getD w.a.toNat []).length ≤ 1048576 := mem_getD hl2 (by omega)
  repeat refine dr_act wG mb ma mc mT mR ?_
  refine dr_callF wG mr mb mx mr (c123 w.c 0 64) (Nat.le_of_ble_eq_true rfl) mv mT mN ?_
  repeat refine dr_act wN mb ma mc mT mR ?_
  cases hC : decide (0 ≤ w.c ∧ w.c ≤ 64)
  · iterate 5 refine dr_skip wG mT ?_
    repeat refine dr_act wN mb ma mc mT mR ?_
    iterate 13 refine dr_skip wG mT ?_
    repeat refine dr_act wN mb ma mc mT mR ?_
    refine dr_nil ⟨fun _ => by kernel_rfl, h1 _ (ev_ret ?_)⟩; clear h1
    exact retT [4] (hv := by rw [hasW, hA, hC]; rfl)
  have hc := of_decide_eq_true hC
  repeat refine dr_act wG mb ma mc mT mR ?_
  refine dr_callF wG mr mb mx mr (c123 w.n 0 w.c) (Nat.le_of_ble_eq_true rfl) mv mT mN ?_
  repeat refine dr_act wN mb ma mc mT mR ?_
  cases hN : decide (0 ≤ w.n ∧ w.n ≤ w.c)
  · iterate 13 refine dr_skip wG mT ?_
    repeat refine dr_act wN mb ma mc mT mR ?_
    refine dr_nil ⟨fun _ => by kernel_rfl, h1 _ (ev_ret ?_)⟩; clear h1
    exact retT [4] (hv := by rw [hasW, hA, hC, hN]; rfl)
  have w2 : IntKind.i64.wrap (((m.getD w.a.toNat []).length : Nat) - w.c) = ((m.getD w.a.toNat []).length : Nat) - w.c := wrap_of (by omega) (by omega)
  repeat refine dr_act wG mb ma mc mT mR ?_
  refine dr_ix ([] : List Int) wG mr mb (by simp only [En_nt, lookO, lookT, Nat.reduceEqDiff, Nat.reduceLT, ↓reduceIte]; rfl) ml mS (by omega) mT ?_
  repeat refine dr_act wG mb ma mc mT mR ?_
  rw [w2]
  refine dr_callF wG mr mb mx mr (c123 w.s 0 _) (Nat.le_of_ble_eq_true rfl) mv mT mN ?_
  repeat refine dr_act wN mb ma mc mT mR ?_
  refine dr_nil ⟨fun _ => by kernel_rfl, h1 _ (ev_ret ?_)⟩; clear h1
  exact retT [4] (hv := by rw [hasW, hA, hC, hN]; rfl)

/-- A box that holds a memory. -/
abbrev bM (m : List (List Int)) : Root := ⟨31, 1, [[eM m]]⟩

theorem c187 (m : List (List Int)) (w : Win) (hl1 : m.length ≤ 1048576) (hl2 : ∀ r, r ∈ m → r.length ≤ 1048576) :
    GoodR Try.prog 187 [eW w, .ptr (0, none) 0 0] [bM m] (vb (!hasW m w)) [some (bM m)] := by
  refine goodR_of (E := En 8 1) (fn := Try.f187) (by kernel_rfl) (by kernel_rfl) rfl rfl (by simp only [List.length_cons, List.length_nil]; decide) ⟨rfl, Nat.le_refl 1⟩ rfl ⟨rfl, trivial⟩ (fun C0 => ?_)
  simp only [argT, rsT, Nat.reduceAdd, List.length_cons, List.length_nil]
  refine ev_seq fun K1 h1 => ev_rf mB ?_
  repeat refine dr_act wN mb ma mc mT mR ?_
  refine dr_nil (h1 _ ?_); clear h1 K1
  refine ev_seq fun K1 h1 => ev_rf mB ?_
  repeat refine dr_act wN mb ma mc mT mR ?_
  refine dr_callF wN mr mb mx mr (c188 m w hl1 hl2) (Nat.le_of_ble_eq_true rfl) mv mT mN ?_
  repeat refine dr_act wN mb ma mc mT mR ?_
  refine dr_nil (h1 _ (ev_ret ?_)); clear h1
  exact retRT [] [3] (hR := ⟨⟨_, rfl, rfl, rfl, rfl⟩, trivial⟩)
end Go.Ev
namespace Go.Ev
open Go Go.RowKit Go.Proofs

def okMi (m : List (List Int)) : Bool := m.all okRow && decide ((m.length : Int) ≤ 16)
theorem okMi_eq (m : List (List Int)) : okMi m = okM m := by
  unfold okMi okM
  by_cases h : (m.length : Int) ≤ 16
  · rw [List.take_of_length_le (by omega)]
  · rw [decide_eq_false h, Bool.and_false, Bool.and_false]

theorem c162 (m : List (List Int)) (hl : m.length ≤ 1048576) : Good Try.prog 162 [eMem m] (vb (okM m)) [] := by
  rw [← okMi_eq]
  refine good_of (E := En 21) (fn := Try.f162) (by kernel_rfl) (by kernel_rfl) rfl rfl (by simp only [List.length_cons, List.length_nil]; decide) (fun C0 => ?_)
  simp only [argT, eMem, eM]
  refine ev_seq fun K1 h1 => ev_rf mB ?_
  repeat refine dr_act wN mb ma mc mT mR ?_
  refine dr_nil (h1 _ ?_); clear h1 K1
  refine ev_seq fun K1 h1 => ?_
  refine ev_seq fun K2 h2 => ev_rf mB ?_
  repeat refine dr_act wN mb ma mc mT mR ?_
  refine dr_nil (h2 _ ?_); clear h2 K2
  refine ev_block (ev_loop (α := {i : Nat // i ≤ m.length ∧ (m.take i).all okRow = true}) (fun i => ⟨[(1, .ptr (0, none) 0 0), (6, .list 1 (m.map cM)), (7, vi m.length), (8, vi i.1)], [(0, ⟨31, 1, [[.list 1 (m.map cM)]]⟩)], 48⟩) (fun i => m.length - i.1) ⟨0, Nat.zero_le _, rfl⟩ (weak_ren [] mK mK mD mQ) (fun ⟨i, hi, ht⟩ => ?_))
  refine ev_seq fun K2 h2 => ev_rf mB ?_
  repeat refine dr_act wN mb ma mc mT mR ?_
  refine dr_nil (h2 _ ?_); clear h2
  refine ev_seq fun K2 h2 => ?_
  refine ev_cond _ ml (fun h => ev_skip (h2 _ ?_)) (fun h => ev_exit ?_)
  · clear h1 h2
    have hlt : i < m.length := by have := of_decide_eq_true h; omega
    have hts : m.take (i + 1) = m.take i ++ [m.getD i []] := by
      rw [List.take_succ_eq_append_getElem hlt, List.getD_eq_getElem?_getD, List.getElem?_eq_getElem hlt]; rfl
    refine ev_seq fun K2 h2 => ev_block (ev_seq fun K3 h3 => ev_rf mB ?_)
    refine dr_ix ([] : List Int) wN mr mb ml ml mS (by omega) mT ?_
    repeat refine dr_act wN mb ma mc mT mR ?_
    refine dr_nil (h3 _ ?_); clear h3
    refine ev_seq fun K3 h3 => ev_rf mB ?_
    refine dr_act wN mb ma mc mT mR ?_
    refine dr_act wN mb (by simp only [eB]; exact ma) mc mT mR ?_
    refine dr_callF wN mr mb mx mr (c123 ((m.getD i []).length : Nat) 1 64) (Nat.le_of_ble_eq_true rfl) mv mT mN ?_
    cases hR : decide (1 ≤ ((m.getD i []).length : Int) ∧ ((m.getD i []).length : Int) ≤ 64)
    · repeat refine dr_act wN mb ma mc mT mR ?_
      refine dr_nil (h3 _ ?_); clear h3
      refine ev_cond true mlq (fun h => ?_) (fun h => by cases h)
      refine ev_seq fun K3 h3 => ev_rf mB ?_
      repeat refine dr_act wN mb ma mc mT mR ?_
      refine dr_nil (h3 _ (ev_ret ?_)); clear h3 h2
      have e : m.all okRow = false := by
        refine Bool.eq_false_iff.2 fun e => ?_
        have hm : m.getD i [] ∈ m := by rw [List.getD_eq_getElem?_getD, List.getElem?_eq_getElem hlt]; exact List.getElem_mem hlt
        have := List.all_eq_true.1 e _ hm
        rw [okRow, hR] at this
        cases this
      exact retT [2] (hv := by rw [okMi, e]; rfl)
    · repeat refine dr_act wN mb ma mc mT mR ?_
      refine dr_nil (h3 _ ?_); clear h3
      refine ev_cond false mlq (fun h => by cases h) (fun h => ev_skip (h2 _ ?_)); clear h2
      refine ev_rf mB ?_
      repeat refine dr_act wN mb ma mc mT mR ?_
      refine dr_nil ⟨⟨i + 1, hlt, by rw [hts, List.all_append, ht]; simp only [List.all_cons, List.all_nil, Bool.and_true, Bool.true_and]; exact hR⟩, by simp only []; omega, ?_⟩
      rw [w64p (n := m.length) hlt (by omega)]
      exact weak_ren [] mK mK mD mQ
  · simp only [seqK, loopK, blkK, ↓reduceIte]
    refine h1 _ ?_; clear h1 h2
    have hge := of_decide_eq_false h
    obtain rfl : i = m.length := by omega
    rw [List.take_length] at ht
    refine ev_seq fun K1 h1 => ev_rf mB ?_
    repeat refine dr_act wN mb ma mc mT mR ?_
    refine dr_nil (h1 _ (ev_ret ?_)); clear h1
    exact retT [2] (hv := by rw [okMi, ht]; rfl)

/-- The first window that is none. -/
def fiW (m : List (List Int)) : List Win → Int → Int
  | [], _ => -1
  | w :: ws, k => if hasW m w = true then fiW m ws (k + 1) else k
theorem fiW_all (m : List (List Int)) : ∀ (ws : List Win) (k : Int), 0 ≤ k → (fiW m ws k ≥ 0 ↔ ¬ ws.all (hasW m) = true)
  | [], k, h => ⟨fun h => absurd (show (-1 : Int) ≥ 0 from h) (by decide), fun h => absurd rfl h⟩
  | w :: ws, k, h => by
    by_cases e : hasW m w = true
    · simp only [fiW, if_pos e, List.all_cons, e, Bool.true_and]
      exact fiW_all m ws (k + 1) (by omega)
    · simp only [fiW, if_neg e, List.all_cons, Bool.eq_false_iff.2 e, Bool.false_and]
      exact ⟨fun _ => by decide, fun _ => h⟩

theorem wdrop {ws : List Win} {i : Nat} (d : Win) (h : i < ws.length) : ws.drop i = ws.getD i d :: ws.drop (i + 1) := by
  rw [List.drop_eq_getElem_cons h, List.getD_eq_getElem?_getD, List.getElem?_eq_getElem h]; rfl

theorem c203 (m : List (List Int)) (ws : List Win) (hl1 : m.length ≤ 1048576) (hl2 : ∀ r, r ∈ m → r.length ≤ 1048576) (hw : ws.length ≤ 1048576) :
    GoodR Try.prog 203 [.list 4 (ws.map cW), .clo 187 [.ptr (0, none) 0 0]] [bM m] (vi (fiW m ws 0)) [some (bM m)] := by
  refine goodR_of (E := En 19 1) (fn := Try.f203) (by kernel_rfl) (by kernel_rfl) rfl rfl (by simp only [List.length_cons, List.length_nil]; decide) ⟨rfl, Nat.le_refl 1⟩ rfl ⟨rfl, trivial⟩ (fun C0 => ?_)
  simp only [argT, rsT, Nat.reduceAdd, List.length_cons, List.length_nil]
  refine ev_seq fun K1 h1 => ev_rf mB ?_
  repeat refine dr_act wN mb ma mc mT mR ?_
  refine dr_nil (h1 _ ?_); clear h1 K1
  refine ev_seq fun K1 h1 => ?_
  refine ev_seq fun K2 h2 => ev_rf mB ?_
  repeat refine dr_act wN mb ma mc mT mR ?_
  refine dr_nil (h2 _ ?_); clear h2 K2
  refine ev_block (ev_loop (α := {i : Nat // i ≤ ws.length ∧ fiW m (ws.drop i) i = fiW m ws 0}) (fun i => ⟨[(0, .list 4 (ws.map cW)), (1, .clo 187 [.ptr (0, none) 0 0]), (7, vi ws.length), (8, vi i.1)], [(0, bM m)], 33⟩) (fun i => ws.length - i.1) ⟨0, Nat.zero_le _, rfl⟩ (weak_ren [] mK mK mD mQ) (fun ⟨i, hi, ht⟩ => ?_))
  refine ev_seq fun K2 h2 => ev_rf mB ?_
  repeat refine dr_act wN mb ma mc mT mR ?_
  refine dr_nil (h2 _ ?_); clear h2
  refine ev_seq fun K2 h2 => ?_
  refine ev_cond _ ml (fun h => ev_skip (h2 _ ?_)) (fun h => ev_exit ?_)
  · clear h1 h2
    have hlt : i < ws.length := by have := of_decide_eq_true h; omega
    simp only [wdrop ⟨0, 0, 0, 0⟩ hlt, fiW] at ht
    refine ev_seq fun K2 h2 => ev_block (ev_seq fun K3 h3 => ev_rf mB ?_)
    repeat refine dr_act wN mb ma mc mT mR ?_
    refine dr_nil (h3 _ ?_); clear h3
    refine ev_seq fun K3 h3 => ev_rf mB ?_
    repeat refine dr_act wN mb ma mc mT mR ?_
    refine dr_ix (⟨0, 0, 0, 0⟩ : Win) wN mr mb ml ml mS (by omega) mT ?_
    repeat refine dr_act wN mb ma mc mT mR ?_
    refine dr_callR [0] [] wN mr mb mx (c187 m (ws.getD i ⟨0, 0, 0, 0⟩) hl1 hl2) (.ren rfl rfl (.ren rfl rfl .nil)) ⟨⟨_, rfl, rfl, rfl, rfl, rfl⟩, trivial⟩ ⟨⟨by decide, fun z hz => by simp at hz⟩, Nat.le_of_ble_eq_true rfl⟩ mr mT (R1 := [(0, bM m)]) mr ?_
    cases hR : hasW m (ws.getD i ⟨0, 0, 0, 0⟩)
    · rw [hR, if_neg (by decide)] at ht
      refine dr_nil (h3 _ ?_); clear h3
      refine ev_cond true mlq (fun h => ?_) (fun h => by cases h)
      refine ev_seq fun K3 h3 => ev_rf mB ?_
      repeat refine dr_act wN mb ma mc mT mR ?_
      refine dr_nil (h3 _ (ev_ret ?_)); clear h3 h2
      exact retRT [] [4] (hv := by rw [← ht]; rfl) (hR := ⟨⟨_, rfl, rfl, rfl, rfl⟩, trivial⟩)
    · rw [hR, if_pos rfl] at ht
      refine dr_nil (h3 _ ?_); clear h3
      refine ev_cond false mlq (fun h => by cases h) (fun h => ev_skip (h2 _ ?_)); clear h2
      refine ev_rf mB ?_
      repeat refine dr_act wN mb ma mc mT mR ?_
      refine dr_nil ⟨⟨i + 1, hlt, ht⟩, by simp only []; omega, ?_⟩
      rw [w64p (n := ws.length) hlt (by omega)]
      exact weak_ren [] mK mK mD mQ
  · simp only [seqK, loopK, blkK, ↓reduceIte]
    refine h1 _ ?_; clear h1 h2
    have hge := of_decide_eq_false h
    obtain rfl : i = ws.length := by omega
    rw [List.drop_length] at ht
    refine ev_seq fun K1 h1 => ev_rf mB ?_
    repeat refine dr_act wN mb ma mc mT mR ?_
    refine dr_nil (h1 _ (ev_ret ?_)); clear h1
    exact retRT [] [4] (hv := by rw [← ht]; rfl) (hR := ⟨⟨_, rfl, rfl, rfl, rfl⟩, trivial⟩)

theorem c186 (m : List (List Int)) (ws : List Win) (hl1 : m.length ≤ 1048576) (hl2 : ∀ r, r ∈ m → r.length ≤ 1048576) (hw : ws.length ≤ 1048576) :
    GoodR Try.prog 186 [.list 4 (ws.map cW), .clo 187 [.ptr (0, none) 0 0]] [bM m] (vb (!ws.all (hasW m))) [some (bM m)] := by
  refine goodR_of (E := En 9 1) (fn := Try.f186) (by kernel_rfl) (by kernel_rfl) rfl rfl (by simp only [List.length_cons, List.length_nil]; decide) ⟨rfl, Nat.le_refl 1⟩ rfl ⟨rfl, trivial⟩ (fun C0 => ?_)
  simp only [argT, rsT, Nat.reduceAdd, List.length_cons, List.length_nil]
  refine ev_seq fun K1 h1 => ev_rf mB ?_
  repeat refine dr_act wN mb ma mc mT mR ?_
  refine dr_nil (h1 _ ?_); clear h1 K1
  refine ev_seq fun K1 h1 => ev_rf mB ?_
  repeat refine dr_act wN mb ma mc mT mR ?_
  refine dr_callR [0] [] wN mr mb mx (c203 m ws hl1 hl2 hw) (.ren rfl rfl (.ren rfl rfl .nil)) ⟨⟨_, rfl, rfl, rfl, rfl, rfl⟩, trivial⟩ ⟨⟨by decide, fun z hz => by simp at hz⟩, Nat.le_of_ble_eq_true rfl⟩ mr mT (R1 := [(0, bM m)]) mr ?_
  repeat refine dr_act wN mb ma mc mT mR ?_
  refine dr_nil (h1 _ (ev_ret ?_)); clear h1
  refine retRT [] [4] (hv := ?_) (hR := ⟨⟨_, rfl, rfl, rfl, rfl⟩, trivial⟩)
  have h := fiW_all m ws 0 (Int.le_refl 0)
  show vb (decide (fiW m ws 0 ≥ 0)) = vb (!ws.all (hasW m))
  congr 2
  by_cases e : ws.all (hasW m) = true
  · rw [e, decide_eq_false fun k => h.1 k e]; rfl
  · rw [Bool.eq_false_iff.2 e, decide_eq_true (h.2 e)]; rfl

theorem c146 (m : List (List Int)) (ws : List Win) (hl1 : m.length ≤ 1048576) (hl2 : ∀ r, r ∈ m → r.length ≤ 1048576) (hw : ws.length ≤ 1048576) :
    Good Try.prog 146 [eMem m, .list 4 (ws.map cW)] (vb (okM m && ws.all (hasW m))) [] := by
  refine good_of (E := En 13) (fn := Try.f146) (by kernel_rfl) (by kernel_rfl) rfl rfl (by simp only [List.length_cons, List.length_nil]; decide) (fun C0 => ?_)
  simp only [argT, Nat.reduceAdd]
  refine ev_seq fun K1 h1 => ev_rf mB ?_
  repeat refine dr_act wN mb ma mc mT mR ?_
  refine dr_nil (h1 _ ?_); clear h1 K1
  refine ev_seq fun K1 h1 => ev_rf mB ?_
  repeat refine dr_act wN mb ma mc mT mR ?_
  refine dr_callF wN mr mb mx mr (c162 m hl1) (Nat.le_of_ble_eq_true rfl) mv mT mN ?_
  repeat refine dr_act wN mb ma mc mT mR ?_
  cases hM : okM m
  · iterate 4 refine dr_skip wG mT ?_
    repeat refine dr_act wN mb ma mc mT mR ?_
    refine dr_nil (h1 _ (ev_ret ?_)); clear h1
    exact retT [4] (hv := by rw [hM]; rfl)
  repeat refine dr_act wG mb ma mc mT mR ?_
  refine dr_callR [0] [] wG mr mb mx (c186 m ws hl1 hl2 hw) (.ren rfl rfl (.ren rfl rfl .nil)) ⟨⟨_, rfl, rfl, rfl, rfl, rfl⟩, trivial⟩ ⟨⟨by decide, fun z hz => by simp at hz⟩, Nat.le_of_ble_eq_true rfl⟩ mr mT (R1 := [(0, bM m)]) mr ?_
  repeat refine dr_act wG mb ma mc mT mR ?_
  repeat refine dr_act wN mb ma mc mT mR ?_
  refine dr_nil (h1 _ (ev_ret ?_)); clear h1
  exact retT [4] (hv := by rw [hM]; simp [oneOf])
end Go.Ev
namespace Go.Ev
open Go Go.RowKit Go.Proofs

abbrev wz : Win := ⟨0, 0, 0, 0⟩
def eWS (ws : List Win) : V := .list 4 (ws.map cW)
abbrev rWS (ws : List Win) : Root := ⟨32, 4, ws.map cW⟩

instance : DecidableEq Win := fun a b => decidable_of_iff (a.a = b.a ∧ a.s = b.s ∧ a.n = b.n ∧ a.c = b.c) ⟨fun h => by cases a; cases b; simp_all, fun h => by subst h; exact ⟨rfl, rfl, rfl, rfl⟩⟩

theorem qW_eq {a b : Win} (h : qW a b = true) : a = b := by
  simp only [qW, Bool.and_eq_true, decide_eq_true_eq] at h
  cases a; cases b
  simp_all

def szWS (ws : List Win) (k : Int) : Int := if k - ws.length < 0 then -1 else k - ws.length

theorem c114 (ws : List Win) (k : Int) (hl : ws.length ≤ maxLen) (h0 : 0 ≤ k ∧ k ≤ 1048576) : Good Try.prog 114 [eWS ws, vi k] (vi (szWS ws k)) [] := by
  refine good_of (E := En 12) (fn := Try.f114) (by kernel_rfl) (by kernel_rfl) rfl rfl (by simp only [List.length_cons, List.length_nil]; decide) (fun C0 => ?_)
  have hw : IntKind.i64.wrap (k - (ws.length : Nat)) = k - (ws.length : Nat) := wrap_of (by simp only [maxLen] at hl; omega) (by omega)
  simp only [argT, Nat.reduceAdd, eWS]
  refine ev_seq fun K1 h1 => ev_rf mB ?_
  repeat refine dr_act wN mb ma mc mT mR ?_
  refine dr_nil (h1 _ ?_); clear h1 K1
  refine ev_seq fun K1 h1 => ev_rf mB ?_
  repeat refine dr_act wN mb ma mc mT mR ?_
  refine dr_nil (h1 _ ?_); clear h1 K1
  rw [hw]
  refine ev_seq fun K1 h1 => ev_seq fun K2 h2 => ev_rf mB ?_
  repeat refine dr_act wN mb ma mc mT mR ?_
  refine dr_nil (h2 _ ?_); clear h2 K2
  refine ev_cond _ ml (fun h => ?_) (fun h => ev_skip (h1 _ ?_))
  · have hlt := of_decide_eq_true h
    refine ev_seq fun K2 h2 => ev_rf mB ?_
    repeat refine dr_act wN mb ma mc mT mR ?_
    refine dr_nil (h2 _ (ev_ret ?_)); clear h2 h1
    exact retT [4] (hv := by rw [szWS, if_pos hlt]; rfl)
  · clear h1 K1
    have hge := of_decide_eq_false h
    refine ev_seq fun K2 h2 => ev_rf mB ?_
    repeat refine dr_act wN mb ma mc mT mR ?_
    refine dr_nil (h2 _ (ev_ret ?_)); clear h2
    exact retT [4] (hv := by rw [szWS, if_neg hge]; rfl)


theorem c121 (ws : List Win) (hl : ws.length ≤ 1048576) : Good Try.prog 121 [eWS ws] (.ref (0, none) 0 ws.length) [rWS ws] := by
  refine good_of (E := En 23) (fn := Try.f121) (by kernel_rfl) (by kernel_rfl) rfl rfl (by simp only [List.length_cons, List.length_nil]; decide) (fun C0 => ?_)
  simp only [argT, Nat.reduceAdd, eWS]
  refine ev_seq fun K1 h1 => ev_rf mB ?_
  repeat refine dr_act wN mb ma mc mT mR ?_
  refine dr_nil (h1 _ ?_); clear h1 K1
  refine ev_seq fun K1 h1 => ev_rf mB ?_
  repeat refine dr_act wN mb ma mc mT mR ?_
  refine dr_act wN mb ma (by omega) mT mR ?_
  repeat refine dr_act wN mb ma mc mT mR ?_
  refine dr_nil (h1 _ ?_); clear h1 K1
  refine ev_seq fun K1 h1 => ?_
  refine ev_seq fun K2 h2 => ev_rf mB ?_
  repeat refine dr_act wN mb ma mc mT mR ?_
  refine dr_nil (h2 _ ?_); clear h2 K2
  refine ev_block (ev_loop (α := {i : Nat // i ≤ ws.length}) (fun i => ⟨[(0, .list 4 (ws.map cW)), (3, .ref (24, none) 0 ws.length), (4, vi i.1)], [(24, ⟨32, 4, (soFar wz ws i.1).map cW⟩)], 48⟩) (fun i => ws.length - i.1) ⟨0, Nat.zero_le _⟩ (weak_ren [] mK (chkRm rfl (by decide) (by rw [soFar_zero, List.map_replicate]) (fun _ => rfl) (fun _ => rfl) mK) mD mQ) (fun ⟨i, hi⟩ => ?_))
  refine ev_seq fun K2 h2 => ev_seq fun K3 h3 => ev_rf mB ?_
  repeat refine dr_act wN mb ma mc mT mR ?_
  refine dr_nil (h3 _ ?_); clear h3
  refine ev_cond _ ml (fun h => ev_skip (h2 _ ?_)) (fun h => ev_exit ?_)
  · clear h1 h2
    have hlt : i < ws.length := by have := of_decide_eq_true h; omega
    refine ev_seq fun K2 h2 => ev_block (ev_rf mB ?_)
    repeat refine dr_act wN mb ma mc mT mR ?_
    refine dr_ix (wz : Win) wN mr mb ml ml mS (by omega) mT ?_
    repeat refine dr_act wN mb ma mc mT mR ?_
    refine dr_callF wN mr mb mx mr (c85 (ws.getD i wz)) (Nat.le_of_ble_eq_true rfl) mv mT mN ?_
    refine dr_ixp wN mr mb ml ml mr mS (by omega) (Nat.zero_add _) mT ?_
    refine dr_stp (zs := (soFar wz ws (i + 1)).map cW) wN mr mb ml mr mr ml ⟨rfl, rfl⟩ mZ ⟨by rw [List.length_map, Int.toNat_natCast, soFar_length hi]; exact hlt, Nat.le_refl 4⟩ ?_ mr mT mR ?_
    · rw [Int.toNat_natCast, ← soFar_set (d := wz) hlt]
      exact set_put wz (by rw [soFar_length hi]; exact hlt) rfl
    refine dr_nil (h2 _ (ev_rf mB ?_)); clear h2
    repeat refine dr_act wN mb ma mc mT mR ?_
    refine dr_nil ⟨⟨i + 1, by omega⟩, by simp only []; omega, ?_⟩
    rw [w64p (n := ws.length) (by omega) (by omega)]
    exact weak_ren [] mK (chkRm rfl (by decide) rfl (fun _ => rfl) (fun _ => rfl) mK) mD mQ
  · simp only [seqK, loopK, blkK, ↓reduceIte]
    refine h1 _ ?_; clear h1 h2
    have hge := of_decide_eq_false h
    obtain rfl : i = ws.length := by omega
    refine ev_seq fun K1 h1 => ev_rf mB ?_
    repeat refine dr_act wN mb ma mc mT mR ?_
    refine dr_nil (h1 _ (ev_ret ?_)); clear h1
    refine retR [24] [2] (hv := rfl) (hR := ⟨⟨?_, ?_⟩, trivial⟩)
    · show some (Root.mk 32 4 ((soFar wz ws ws.length).map cW)) = _
      rw [soFar_full]
    · exact pure_map fun _ => rfl

theorem c50 (a b : List Win) (hl : a.length ≤ maxLen) : Good Try.prog 50 [eWS a, eWS b] (vb (decide (a = b))) [] := by
  refine good_of (E := En 27) (fn := Try.f50) (by kernel_rfl) (by kernel_rfl) rfl rfl (by simp only [List.length_cons, List.length_nil]; decide) (fun C0 => ?_)
  simp only [argT, Nat.reduceAdd, eWS]
  refine ev_seq fun K1 h1 => ev_rf mB ?_
  repeat refine dr_act wN mb ma mc mT mR ?_
  refine dr_nil (h1 _ ?_); clear h1 K1
  refine ev_seq fun K1 h1 => ev_seq fun K2 h2 => ev_rf mB ?_
  repeat refine dr_act wN mb ma mc mT mR ?_
  refine dr_nil (h2 _ ?_); clear h2 K2
  refine ev_cond _ ml (fun h => ?_) (fun h => ev_skip (h1 _ ?_))
  · refine ev_seq fun K2 h2 => ev_rf mB ?_
    repeat refine dr_act wN mb ma mc mT mR ?_
    refine dr_nil (h2 _ (ev_ret ?_)); clear h2 h1
    have e : ¬ a = b := fun e => by subst e; simp at h
    exact retT [4] (hv := by rw [decide_eq_false e]; rfl)
  have hlen : a.length = b.length := by
    have : ((a.length : Int) = b.length) := by simpa using h
    omega
  clear h1 K1 h
  refine ev_seq fun K1 h1 => ?_
  refine ev_seq fun K2 h2 => ev_rf mB ?_
  repeat refine dr_act wN mb ma mc mT mR ?_
  refine dr_nil (h2 _ ?_); clear h2 K2
  refine ev_block (ev_loop (α := {i : Nat // i ≤ a.length ∧ a.take i = b.take i}) (fun i => ⟨[(0, .list 4 (a.map cW)), (1, .list 4 (b.map cW)), (5, vi i.1)], [], 56⟩) (fun i => a.length - i.1) ⟨0, Nat.zero_le _, rfl⟩ (weak_ren [] mK mK mD mQ) (fun ⟨i, hi, ht⟩ => ?_))
  refine ev_seq fun K2 h2 => ev_seq fun K3 h3 => ev_rf mB ?_
  repeat refine dr_act wN mb ma mc mT mR ?_
  refine dr_nil (h3 _ ?_); clear h3
  refine ev_cond _ ml (fun h => ev_skip (h2 _ ?_)) (fun h => ev_exit ?_)
  · clear h1 h2
    have hlt : i < a.length := by have := of_decide_eq_true h; omega
    refine ev_seq fun K2 h2 => ev_block (ev_seq fun K3 h3 => ev_reg mB ?_)
    repeat refine dr_act wN mb ma mc mT mR ?_
    refine dr_ix (wz : Win) wN mr mb ml ml mS (by omega) mT ?_
    repeat refine dr_act wN mb ma mc mT mR ?_
    refine dr_ix (wz : Win) wN mr mb ml ml mS (by omega) mT ?_
    repeat refine dr_act wN mb ma mc mT mR ?_
    refine dr_callF wN mr mb mx mr (c41 (a.getD i wz) (b.getD i wz)) (Nat.le_of_ble_eq_true rfl) mv mT mN ?_
    repeat refine dr_act wN mb ma mc mT mR ?_
    refine dr_nil ⟨fun _ => by kernel_rfl, h3 _ ?_⟩; clear h3
    refine ev_cond _ ml (fun h => ?_) (fun h => ev_skip ?_)
    · refine ev_seq fun K3 h3 => ev_rf mB ?_
      repeat refine dr_act wN mb ma mc mT mR ?_
      refine dr_nil (h3 _ (ev_ret ?_)); clear h3 h2
      have e : ¬ a = b := fun e => by subst e; simp at h
      exact retT [4] (hv := by rw [decide_eq_false e]; rfl)
    · have e : a.getD i wz = b.getD i wz := qW_eq (by simpa using h)
      refine h2 _ (ev_rf mB ?_); clear h2
      repeat refine dr_act wN mb ma mc mT mR ?_
      refine dr_nil ⟨⟨i + 1, hlt, take_eq_succ wz hlen hlt ht e⟩, by simp only []; omega, ?_⟩
      rw [w64p (n := a.length) hlt (by have := hl; simp only [maxLen] at this; omega)]
      exact weak_ren [] mK mK mD mQ
  · simp only [seqK, loopK, blkK, ↓reduceIte]
    refine h1 _ ?_; clear h1 h2
    have hge := of_decide_eq_false h
    obtain rfl : i = a.length := by omega
    have e : a = b := by
      rw [List.take_length] at ht
      rw [ht, hlen, List.take_length]
    refine ev_seq fun K1 h1 => ev_rf mB ?_
    repeat refine dr_act wN mb ma mc mT mR ?_
    refine dr_nil (h1 _ (ev_ret ?_)); clear h1
    exact retT [4] (hv := by rw [decide_eq_true e]; rfl)
end Go.Ev
namespace Go.Ev
open Go Go.RowKit Go.Proofs

/-- The windows that mark a list. -/
def mkW (k : Int) (n : Nat) : List Win := (List.range n).map fun j => ⟨k + 4 * (j : Nat), k + 4 * (j : Nat) + 1, k + 4 * (j : Nat) + 2, k + 4 * (j : Nat) + 3⟩
theorem mkW_len {k : Int} {n : Nat} : (mkW k n).length = n := by simp [mkW]
theorem mkW_get {k : Int} {n i : Nat} (h : i < n) : (mkW k n).getD i wz = ⟨k + 4 * (i : Nat), k + 4 * (i : Nat) + 1, k + 4 * (i : Nat) + 2, k + 4 * (i : Nat) + 3⟩ := by
  simp [mkW, List.getD_eq_getElem?_getD, h]
theorem mkW_succ {k : Int} {n : Nat} : mkW k (n + 1) = mkW k n ++ [⟨k + 4 * (n : Nat), k + 4 * (n : Nat) + 1, k + 4 * (n : Nat) + 2, k + 4 * (n : Nat) + 3⟩] := by
  rw [mkW, mkW, List.range_succ, List.map_append]; rfl

theorem c53 (ws : List Win) (k : Int) (hl : ws.length ≤ 1048576) (hk : 0 ≤ k) (hk2 : k ≤ 4000000) :
    GoodR Try.prog 53 [.ref (0, none) 0 ws.length, vi k] [rWS ws] (vi (k + 4 * (ws.length : Nat))) [some (rWS (mkW k ws.length))] := by
  refine goodR_of (E := En 41 1) (fn := Try.f53) (by kernel_rfl) (by kernel_rfl) rfl rfl (by simp only [List.length_cons, List.length_nil]; decide) ⟨rfl, Nat.le_refl 1⟩ rfl ⟨okMap (fun _ => rfl) _, trivial⟩ (fun C0 => ?_)
  simp only [argT, rsT, Nat.reduceAdd, List.length_cons, List.length_nil]
  refine ev_seq fun K1 h1 => ev_rf mB ?_
  repeat refine dr_act wN mb ma mc mT mR ?_
  refine dr_nil (h1 _ ?_); clear h1 K1
  refine ev_seq fun K1 h1 => ?_
  refine ev_seq fun K2 h2 => ev_rf mB ?_
  repeat refine dr_act wN mb ma mc mT mR ?_
  refine dr_nil (h2 _ ?_); clear h2 K2
  refine ev_block (ev_loop (α := {i : Nat // i ≤ ws.length}) (fun i => ⟨[(0, .ref (0, none) 0 ws.length), (1, vi (k + 4 * (i.1 : Nat))), (5, vi i.1)], [(0, rWS (mkW k i.1 ++ ws.drop i.1))], 17⟩) (fun i => ws.length - i.1) ⟨0, Nat.zero_le _⟩ (weak_ren [] ?_ (chkRm rfl (by decide) (by simp [mkW]) (fun _ => rfl) (fun _ => rfl) mK) mD mQ) (fun ⟨i, hi⟩ => ?_))
  · simp only [Int.natCast_zero, Int.mul_zero, Int.add_zero]; exact mK
  have hcl : (mkW k i ++ ws.drop i).length = ws.length := by rw [List.length_append, mkW_len, List.length_drop]; omega
  refine ev_seq fun K2 h2 => ev_seq fun K3 h3 => ev_rf mB ?_
  repeat refine dr_act wN mb ma mc mT mR ?_
  refine dr_nil (h3 _ ?_); clear h3
  refine ev_cond _ ml (fun h => ev_skip (h2 _ ?_)) (fun h => ev_exit ?_)
  · clear h1 h2
    have hlt : i < ws.length := by have := of_decide_eq_true h; omega
    have hci : (mkW k i ++ ws.drop i).getD i wz = ws.getD i wz := by
      rw [List.getD_eq_getElem?_getD, List.getElem?_append_right (by rw [mkW_len]; omega), mkW_len, Nat.sub_self, List.getElem?_drop, Nat.add_zero, ← List.getD_eq_getElem?_getD]
    have e1 : k + 4 * (i : Nat) + 4 = k + 4 * ((i + 1 : Nat) : Int) := by omega
    have e2 : (mkW k i ++ ws.drop i).set i ⟨k + 4 * (i : Nat), k + 4 * (i : Nat) + 1, k + 4 * (i : Nat) + 2, k + 4 * (i : Nat) + 3⟩ = mkW k (i + 1) ++ ws.drop (i + 1) := by
      rw [List.set_append, if_neg (by rw [mkW_len]; omega), mkW_len, Nat.sub_self, wdrop wz hlt, List.set_cons_zero, mkW_succ, List.append_assoc]
      rfl
    have hx0 : 0 ≤ k + 4 * (i : Nat) ∧ k + 4 * (i : Nat) ≤ 10000000 := by omega
    generalize hcur : mkW k i ++ ws.drop i = cur at *
    generalize hx : k + 4 * (i : Nat) = x at *
    generalize ws.getD i wz = w at *
    have w0 : IntKind.i64.wrap (x + 1) = x + 1 := wrap_of (by omega) (by omega)
    have w1 : IntKind.i64.wrap (x + 1 + 1) = x + 2 := by rw [wrap_of (by omega) (by omega)]; omega
    have w2 : IntKind.i64.wrap (x + 2 + 1) = x + 3 := by rw [wrap_of (by omega) (by omega)]; omega
    have w3 : IntKind.i64.wrap (x + 3 + 1) = x + 4 := by rw [wrap_of (by omega) (by omega)]; omega
    refine ev_seq fun K2 h2 => ev_block ?_
    refine ev_seq fun K3 h3 => ev_rf mB ?_
    repeat refine dr_act wN mb ma mc mT mR ?_
    refine dr_ixp wN mr mb ml ml mr mS (by omega) (Nat.zero_add _) mT ?_
    repeat refine dr_act wN mb ma mc mT mR ?_
    refine dr_stp (zs := (cur.set i ⟨x, w.s, w.n, w.c⟩).map cW) (r' := rWS (cur.set i ⟨x, w.s, w.n, w.c⟩)) wN mr mb ml mr mr ml ⟨rfl, rfl⟩ mZ ⟨by rw [List.length_map]; omega, Nat.le_of_ble_eq_true rfl⟩ ?_ rfl mT mR ?_
    · try rw [Int.toNat_natCast]
      exact set_put wz (by omega) (by rw [hci]; rfl)
    refine dr_nil (h3 _ ?_); clear h3
    refine ev_seq fun K3 h3 => ev_rf mB ?_
    repeat refine dr_act wN mb ma mc mT mR ?_
    rw [w0]
    refine dr_nil (h3 _ ?_); clear h3
    refine ev_seq fun K3 h3 => ev_rf mB ?_
    repeat refine dr_act wN mb ma mc mT mR ?_
    refine dr_ixp wN mr mb ml ml mr mS (by omega) (Nat.zero_add _) mT ?_
    repeat refine dr_act wN mb ma mc mT mR ?_
    refine dr_stp (zs := (cur.set i ⟨x, x + 1, w.n, w.c⟩).map cW) (r' := rWS (cur.set i ⟨x, x + 1, w.n, w.c⟩)) wN mr mb ml mr mr ml ⟨rfl, rfl⟩ mZ ⟨by rw [List.length_map, List.length_set]; omega, Nat.le_of_ble_eq_true rfl⟩ ?_ rfl mT mR ?_
    · try rw [Int.toNat_natCast]
      rw [show cur.set i ⟨x, x + 1, w.n, w.c⟩ = (cur.set i ⟨x, w.s, w.n, w.c⟩).set i ⟨x, x + 1, w.n, w.c⟩ by rw [List.set_set]]
      exact set_put wz (by rw [List.length_set]; omega) (by rw [getD_set (by omega)]; rfl)
    refine dr_nil (h3 _ ?_); clear h3
    refine ev_seq fun K3 h3 => ev_rf mB ?_
    repeat refine dr_act wN mb ma mc mT mR ?_
    rw [w1]
    refine dr_nil (h3 _ ?_); clear h3
    refine ev_seq fun K3 h3 => ev_rf mB ?_
    repeat refine dr_act wN mb ma mc mT mR ?_
    refine dr_ixp wN mr mb ml ml mr mS (by omega) (Nat.zero_add _) mT ?_
    repeat refine dr_act wN mb ma mc mT mR ?_
    refine dr_stp (zs := (cur.set i ⟨x, x + 1, x + 2, w.c⟩).map cW) (r' := rWS (cur.set i ⟨x, x + 1, x + 2, w.c⟩)) wN mr mb ml mr mr ml ⟨rfl, rfl⟩ mZ ⟨by rw [List.length_map, List.length_set]; omega, Nat.le_of_ble_eq_true rfl⟩ ?_ rfl mT mR ?_
    · try rw [Int.toNat_natCast]
      rw [show cur.set i ⟨x, x + 1, x + 2, w.c⟩ = (cur.set i ⟨x, x + 1, w.n, w.c⟩).set i ⟨x, x + 1, x + 2, w.c⟩ by rw [List.set_set]]
      exact set_put wz (by rw [List.length_set]; omega) (by rw [getD_set (by omega)]; rfl)
    refine dr_nil (h3 _ ?_); clear h3
    refine ev_seq fun K3 h3 => ev_rf mB ?_
    repeat refine dr_act wN mb ma mc mT mR ?_
    rw [w2]
    refine dr_nil (h3 _ ?_); clear h3
    refine ev_seq fun K3 h3 => ev_rf mB ?_
    repeat refine dr_act wN mb ma mc mT mR ?_
    refine dr_ixp wN mr mb ml ml mr mS (by omega) (Nat.zero_add _) mT ?_
    repeat refine dr_act wN mb ma mc mT mR ?_
    refine dr_stp (zs := (cur.set i ⟨x, x + 1, x + 2, x + 3⟩).map cW) (r' := rWS (cur.set i ⟨x, x + 1, x + 2, x + 3⟩)) wN mr mb ml mr mr ml ⟨rfl, rfl⟩ mZ ⟨by rw [List.length_map, List.length_set]; omega, Nat.le_of_ble_eq_true rfl⟩ ?_ rfl mT mR ?_
    · try rw [Int.toNat_natCast]
      rw [show cur.set i ⟨x, x + 1, x + 2, x + 3⟩ = (cur.set i ⟨x, x + 1, x + 2, w.c⟩).set i ⟨x, x + 1, x + 2, x + 3⟩ by rw [List.set_set]]
      exact set_put wz (by rw [List.length_set]; omega) (by rw [getD_set (by omega)]; rfl)
    refine dr_nil (h3 _ ?_); clear h3
    refine ev_rf mB ?_
    repeat refine dr_act wN mb ma mc mT mR ?_
    rw [w3]
    refine dr_nil (h2 _ ?_); clear h2
    refine ev_rf mB ?_
    repeat refine dr_act wN mb ma mc mT mR ?_
    refine dr_nil ⟨⟨i + 1, by omega⟩, by simp only []; omega, ?_⟩
    rw [w64p (n := ws.length) (by omega) (by omega), e1, e2]
    exact weak_ren [] mK (chkRm rfl (by decide) rfl (fun _ => rfl) (fun _ => rfl) mK) mD mQ
  · simp only [seqK, loopK, blkK, ↓reduceIte]
    refine h1 _ ?_; clear h1 h2
    have hge := of_decide_eq_false h
    obtain rfl : i = ws.length := by omega
    simp only [List.drop_length, List.append_nil]
    refine ev_seq fun K1 h1 => ev_rf mB ?_
    repeat refine dr_act wN mb ma mc mT mR ?_
    refine dr_nil (h1 _ (ev_ret ?_)); clear h1
    exact retRT [] [4] (hR := ⟨⟨_, rfl, rfl, rfl, rnMap (g := cW) (fun _ => rfl) _⟩, trivial⟩)

theorem take_mkW {k : Int} {ws : List Win} {i : Nat} (h : ws.take i = mkW k i) (hi : i < ws.length) (e0 : (ws.getD i wz).a = k + 4 * (i : Nat)) (e1 : (ws.getD i wz).s = k + 4 * (i : Nat) + 1) (e2 : (ws.getD i wz).n = k + 4 * (i : Nat) + 2) (e3 : (ws.getD i wz).c = k + 4 * (i : Nat) + 3) : ws.take (i + 1) = mkW k (i + 1) := by
  have e : ws.getD i wz = ws[i] := by rw [List.getD_eq_getElem?_getD, List.getElem?_eq_getElem hi]; rfl
  rw [e] at e0 e1 e2 e3
  rw [List.take_succ_eq_append_getElem hi, h, mkW_succ, ← e3, ← e2, ← e1, ← e0]

theorem c54 (ws : List Win) (k : Int) (hl : ws.length ≤ 1048576) (hk : 0 ≤ k) (hk2 : k ≤ 4000000) : Good Try.prog 54 [eWS ws, vi k] (vi (if ws = mkW k ws.length then k + 4 * (ws.length : Nat) else -1)) [] := by
  refine good_of (E := En 49) (fn := Try.f54) (by kernel_rfl) (by kernel_rfl) rfl rfl (by simp only [List.length_cons, List.length_nil]; decide) (fun C0 => ?_)
  simp only [argT, Nat.reduceAdd, eWS]
  refine ev_seq fun K1 h1 => ev_rf mB ?_
  repeat refine dr_act wN mb ma mc mT mR ?_
  refine dr_nil (h1 _ ?_); clear h1 K1
  refine ev_seq fun K1 h1 => ?_
  refine ev_seq fun K2 h2 => ev_rf mB ?_
  repeat refine dr_act wN mb ma mc mT mR ?_
  refine dr_nil (h2 _ ?_); clear h2 K2
  refine ev_block (ev_loop (α := {i : Nat // i ≤ ws.length ∧ ws.take i = mkW k i}) (fun i => ⟨[(0, .list 4 (ws.map cW)), (1, vi (k + 4 * (i.1 : Nat))), (5, vi i.1)], [], 16⟩) (fun i => ws.length - i.1) ⟨0, Nat.zero_le _, rfl⟩ (weak_ren [] ?_ mK mD mQ) (fun ⟨i, hi, ht⟩ => ?_))
  · simp only [Int.natCast_zero, Int.mul_zero, Int.add_zero]; exact mK
  refine ev_seq fun K2 h2 => ev_seq fun K3 h3 => ev_rf mB ?_
  repeat refine dr_act wN mb ma mc mT mR ?_
  refine dr_nil (h3 _ ?_); clear h3
  refine ev_cond _ ml (fun h => ev_skip (h2 _ ?_)) (fun h => ev_exit ?_)
  · clear h1 h2
    have hlt : i < ws.length := by have := of_decide_eq_true h; omega
    have hgt : ws = mkW k ws.length → ws.getD i wz = ⟨k + 4 * (i : Nat), k + 4 * (i : Nat) + 1, k + 4 * (i : Nat) + 2, k + 4 * (i : Nat) + 3⟩ := fun e => by rw [e]; exact mkW_get hlt
    have e4 : k + 4 * (i : Nat) + 4 = k + 4 * ((i + 1 : Nat) : Int) := by omega
    have hnx := take_mkW ht hlt
    have hx0 : 0 ≤ k + 4 * (i : Nat) ∧ k + 4 * (i : Nat) ≤ 10000000 := by omega
    clear h
    generalize hx : k + 4 * (i : Nat) = x at *
    have w0 : IntKind.i64.wrap (x + 1) = x + 1 := wrap_of (by omega) (by omega)
    have w1 : IntKind.i64.wrap (x + 1 + 1) = x + 2 := by rw [wrap_of (by omega) (by omega)]; omega
    have w2 : IntKind.i64.wrap (x + 2 + 1) = x + 3 := by rw [wrap_of (by omega) (by omega)]; omega
    have w3 : IntKind.i64.wrap (x + 3 + 1) = x + 4 := by rw [wrap_of (by omega) (by omega)]; omega
    refine ev_seq fun K2 h2 => ev_block ?_
    refine ev_seq fun K3 h3 => ?_
    refine ev_seq fun K4 h4 => ev_rf mB ?_
    repeat refine dr_act wN mb ma mc mT mR ?_
    refine dr_ix (wz : Win) wN mr mb ml ml mS (by omega) mT ?_
    repeat refine dr_act wN mb ma mc mT mR ?_
    refine dr_nil (h4 _ ?_); clear h4
    refine ev_cond _ ml (fun h => ?_) (fun h => ev_skip (h3 _ ?_)) <;> clear h3
    · refine ev_seq fun K4 h4 => ev_rf mB ?_
      repeat refine dr_act wN mb ma mc mT mR ?_
      refine dr_nil (h4 _ (ev_ret ?_)); clear h4 h2
      have e : ¬ ws = mkW k ws.length := fun e => by
        have h' : ¬ (ws.getD i wz).a = x := by simpa using h
        rw [hgt e] at h'
        exact h' rfl
      exact retT [4] (hv := by rw [if_neg e]; rfl)
    have e0 : (ws.getD i wz).a = x := by simpa using h
    refine ev_seq fun K3 h3 => ev_rf mB ?_
    repeat refine dr_act wN mb ma mc mT mR ?_
    rw [w0]
    refine dr_nil (h3 _ ?_); clear h3
    refine ev_seq fun K3 h3 => ?_
    refine ev_seq fun K4 h4 => ev_rf mB ?_
    repeat refine dr_act wN mb ma mc mT mR ?_
    refine dr_ix (wz : Win) wN mr mb ml ml mS (by omega) mT ?_
    repeat refine dr_act wN mb ma mc mT mR ?_
    refine dr_nil (h4 _ ?_); clear h4
    refine ev_cond _ ml (fun h => ?_) (fun h => ev_skip (h3 _ ?_)) <;> clear h3
    · refine ev_seq fun K4 h4 => ev_rf mB ?_
      repeat refine dr_act wN mb ma mc mT mR ?_
      refine dr_nil (h4 _ (ev_ret ?_)); clear h4 h2
      have e : ¬ ws = mkW k ws.length := fun e => by
        have h' : ¬ (ws.getD i wz).s = x + 1 := by simpa using h
        rw [hgt e] at h'
        exact h' rfl
      exact retT [4] (hv := by rw [if_neg e]; rfl)
    have e1 : (ws.getD i wz).s = x + 1 := by simpa using h
    refine ev_seq fun K3 h3 => ev_rf mB ?_
    repeat refine dr_act wN mb ma mc mT mR ?_
    rw [w1]
    refine dr_nil (h3 _ ?_); clear h3
    refine ev_seq fun K3 h3 => ?_
    refine ev_seq fun K4 h4 => ev_rf mB ?_
    repeat refine dr_act wN mb ma mc mT mR ?_
    refine dr_ix (wz : Win) wN mr mb ml ml mS (by omega) mT ?_
    repeat refine dr_act wN mb ma mc mT mR ?_
    refine dr_nil (h4 _ ?_); clear h4
    refine ev_cond _ ml (fun h => ?_) (fun h => ev_skip (h3 _ ?_)) <;> clear h3
    · refine ev_seq fun K4 h4 => ev_rf mB ?_
      repeat refine dr_act wN mb ma mc mT mR ?_
      refine dr_nil (h4 _ (ev_ret ?_)); clear h4 h2
      have e : ¬ ws = mkW k ws.length := fun e => by
        have h' : ¬ (ws.getD i wz).n = x + 2 := by simpa using h
        rw [hgt e] at h'
        exact h' rfl
      exact retT [4] (hv := by rw [if_neg e]; rfl)
    have e2 : (ws.getD i wz).n = x + 2 := by simpa using h
    refine ev_seq fun K3 h3 => ev_rf mB ?_
    repeat refine dr_act wN mb ma mc mT mR ?_
    rw [w2]
    refine dr_nil (h3 _ ?_); clear h3
    refine ev_seq fun K3 h3 => ?_
    refine ev_seq fun K4 h4 => ev_rf mB ?_
    repeat refine dr_act wN mb ma mc mT mR ?_
    refine dr_ix (wz : Win) wN mr mb ml ml mS (by omega) mT ?_
    repeat refine dr_act wN mb ma mc mT mR ?_
    refine dr_nil (h4 _ ?_); clear h4
    refine ev_cond _ ml (fun h => ?_) (fun h => ev_skip (h3 _ ?_)) <;> clear h3
    · refine ev_seq fun K4 h4 => ev_rf mB ?_
      repeat refine dr_act wN mb ma mc mT mR ?_
      refine dr_nil (h4 _ (ev_ret ?_)); clear h4 h2
      have e : ¬ ws = mkW k ws.length := fun e => by
        have h' : ¬ (ws.getD i wz).c = x + 3 := by simpa using h
        rw [hgt e] at h'
        exact h' rfl
      exact retT [4] (hv := by rw [if_neg e]; rfl)
    have e3 : (ws.getD i wz).c = x + 3 := by simpa using h
    refine ev_rf mB ?_
    repeat refine dr_act wN mb ma mc mT mR ?_
    rw [w3]
    refine dr_nil (h2 _ ?_); clear h2
    refine ev_rf mB ?_
    repeat refine dr_act wN mb ma mc mT mR ?_
    refine dr_nil ⟨⟨i + 1, hlt, hnx e0 e1 e2 e3⟩, by simp only []; omega, ?_⟩
    rw [w64p (n := ws.length) hlt (by omega), e4]
    exact weak_ren [] mK mK mD mQ
  · simp only [seqK, loopK, blkK, ↓reduceIte]
    refine h1 _ ?_; clear h1 h2
    have hge := of_decide_eq_false h
    obtain rfl : i = ws.length := by omega
    have e : ws = mkW k ws.length := by rw [← ht, List.take_length]
    refine ev_seq fun K1 h1 => ev_rf mB ?_
    repeat refine dr_act wN mb ma mc mT mR ?_
    refine dr_nil (h1 _ (ev_ret ?_)); clear h1
    exact retT [4] (hv := by rw [if_pos e]; rfl)
end Go.Ev
namespace Go.Ev
open Go Go.RowKit Go.Proofs

abbrev eR (ws : List Win) : V := .agg [eWS ws]
abbrev oR (n : Nat) (ws : List Win) : V := .agg [.ref (n, none) 0 ws.length]

theorem fWS {R : Rs} {n : Nat} {ws : List Win} {k : Nat} (h : R n = some (rWS ws)) (hk : k = ws.length) : FrzC R (.ref (n, none) 0 k) (eWS ws) := by
  refine .ref (xs := ws.map cW) (zs := ws.map cW) (by rw [act_of h]) (cut_all (by rw [hk]; exact List.length_map ..)) (norow_noN0 ?_)
  refine List.all_eq_true.2 fun x hx => ?_
  obtain ⟨a, _, rfl⟩ := List.mem_map.1 hx
  rfl
theorem fR {R : Rs} {n : Nat} {ws : List Win} (h : R n = some (rWS ws)) : Frz R (oR n ws) (eR ws) := .agg (.cons (fWS h rfl) .nil)

theorem handW {R : Rs} {n : Nat} {ws : List Win} (h : R n = some (rWS ws)) : HandL R [n] 1 [n] [rWS ws] :=
  ⟨⟨_, h, rfl, rfl, rnMap (fun _ => rfl) ws, okMap (fun _ => rfl) ws⟩, trivial⟩
theorem wrW {R : List (Nat × Root)} {n b : Nat} {ws : List Win} : applyW R (wrR [n] [] b [some (rWS ws)]) = (n, rWS ws) :: dropR R n := by
  have e : ∀ ρ, rnR ρ (rWS ws) = rWS ws := fun ρ => by
    show Root.mk 32 4 ((ws.map cW).map (·.map (rnC ρ))) = _
    rw [← rnMap (fun _ => rfl)]
  simp only [wrR, newR, upN, List.map_nil, List.nil_append, Option.map_some, e]
  rfl
theorem okRW {ws : List Win} : (rWS ws).els.all (·.all pcell) = true := pure_map fun _ => rfl

theorem szWS_neg {ws : List Win} {k : Int} (h : szWS ws k < 0) (h0 : 0 ≤ k) : szWS ws k = -1 := by
  unfold szWS at h ⊢
  split
  · rfl
  · rename_i hc; rw [if_neg hc] at h; omega

theorem c56 (ws : List Win) (k : Int) (hl : ws.length ≤ maxLen) (h0 : 0 ≤ k ∧ k ≤ 1048576) : Good Try.prog 56 [eR ws, vi k] (vi (szWS ws k)) [] := by
  refine good_of (E := En 12) (fn := Try.f56) (by kernel_rfl) (by kernel_rfl) rfl rfl (by simp only [List.length_cons, List.length_nil]; decide) (fun C0 => ?_)
  simp only [argT, Nat.reduceAdd]
  refine ev_seq fun K1 h1 => ev_rf mB ?_
  repeat refine dr_act wN mb ma mc mT mR ?_
  refine dr_nil (h1 _ ?_); clear h1 K1
  refine ev_seq fun K1 h1 => ev_rf mB ?_
  repeat refine dr_act wN mb ma mc mT mR ?_
  refine dr_callF wN mr mb mx mr (c114 ws k hl h0) (Nat.le_of_ble_eq_true rfl) mv mT mN ?_
  repeat refine dr_act wN mb ma mc mT mR ?_
  refine dr_nil (h1 _ ?_); clear h1 K1
  refine ev_seq fun K1 h1 => ev_seq fun K2 h2 => ev_rf mB ?_
  repeat refine dr_act wN mb ma mc mT mR ?_
  refine dr_nil (h2 _ ?_); clear h2 K2
  refine ev_cond _ ml (fun h => ?_) (fun h => ev_skip (h1 _ ?_))
  · have hlt := of_decide_eq_true h
    refine ev_seq fun K2 h2 => ev_rf mB ?_
    repeat refine dr_act wN mb ma mc mT mR ?_
    refine dr_nil (h2 _ (ev_ret ?_)); clear h2 h1
    exact retT [4] (hv := by rw [szWS_neg hlt h0.1]; rfl)
  · clear h1 K1
    refine ev_seq fun K2 h2 => ev_rf mB ?_
    repeat refine dr_act wN mb ma mc mT mR ?_
    refine dr_nil (h2 _ (ev_ret ?_)); clear h2
    exact retT [4] (hv := rfl)

theorem c59 (ws : List Win) (hl : ws.length ≤ 1048576) : Good Try.prog 59 [eR ws] (oR 0 ws) [rWS ws] := by
  refine good_of (E := En 9) (fn := Try.f59) (by kernel_rfl) (by kernel_rfl) rfl rfl (by simp only [List.length_cons, List.length_nil]; decide) (fun C0 => ?_)
  simp only [argT, Nat.reduceAdd]
  iterate 2
    refine ev_seq fun K1 h1 => ev_rf mB ?_
    repeat refine dr_act wN mb ma mc mT mR ?_
    refine dr_nil (h1 _ ?_); clear h1 K1
  refine ev_seq fun K1 h1 => ev_rf mB ?_
  repeat refine dr_act wN mb ma mc mT mR ?_
  refine dr_callF wN mr mb mx mr (c121 ws hl) (Nat.le_of_ble_eq_true rfl) mv mT mN ?_
  repeat refine dr_act wN mb ma mc mT mR ?_
  refine dr_nil (h1 _ ?_); clear h1 K1
  refine ev_seq fun K1 h1 => ev_rf mB ?_
  repeat refine dr_act wN mb ma mc mT mR ?_
  refine dr_nil (h1 _ (ev_ret ?_)); clear h1
  exact retC [40] (hR := ⟨⟨rfl, okRW⟩, trivial⟩)

theorem c62 (a b : List Win) (hl : a.length ≤ maxLen) : Good Try.prog 62 [eR a, eR b] (vb (decide (a = b))) [] := by
  refine good_of (E := En 11) (fn := Try.f62) (by kernel_rfl) (by kernel_rfl) rfl rfl (by simp only [List.length_cons, List.length_nil]; decide) (fun C0 => ?_)
  simp only [argT, Nat.reduceAdd]
  refine ev_seq fun K1 h1 => ev_rf mB ?_
  repeat refine dr_act wN mb ma mc mT mR ?_
  refine dr_nil (h1 _ ?_); clear h1 K1
  refine ev_seq fun K1 h1 => ev_seq fun K2 h2 => ev_rf mB ?_
  repeat refine dr_act wN mb ma mc mT mR ?_
  refine dr_callF wN mr mb mx mr (c50 a b hl) (Nat.le_of_ble_eq_true rfl) mv mT mN ?_
  repeat refine dr_act wN mb ma mc mT mR ?_
  refine dr_nil (h2 _ ?_); clear h2 K2
  refine ev_cond _ ml (fun h => ?_) (fun h => ev_skip (h1 _ ?_))
  · refine ev_seq fun K2 h2 => ev_rf mB ?_
    repeat refine dr_act wN mb ma mc mT mR ?_
    refine dr_nil (h2 _ (ev_ret ?_)); clear h2 h1
    have e : ¬ a = b := by simpa using h
    exact retT [4] (hv := by rw [decide_eq_false e]; rfl)
  have e1 : a = b := by simpa using h
  clear h1 K1 h
  refine ev_seq fun K2 h2 => ev_rf mB ?_
  repeat refine dr_act wN mb ma mc mT mR ?_
  refine dr_nil (h2 _ (ev_ret ?_)); clear h2
  exact retT [4] (hv := by rw [decide_eq_true e1]; rfl)

theorem c64 (ws : List Win) (k : Int) (hl : ws.length ≤ 1048576) (hk : 0 ≤ k) (hk2 : k ≤ 4000000) :
    GoodR Try.prog 64 [oR 0 ws, vi k] [rWS ws] (vi (k + 4 * (ws.length : Nat))) [some (rWS (mkW k ws.length))] := by
  refine goodR_of (E := En 10 1) (fn := Try.f64) (by kernel_rfl) (by kernel_rfl) rfl rfl (by simp only [List.length_cons, List.length_nil]; decide) ⟨rfl, Nat.le_refl 1⟩ rfl ⟨okMap (fun _ => rfl) _, trivial⟩ (fun C0 => ?_)
  simp only [argT, rsT, Nat.reduceAdd, List.length_cons, List.length_nil]
  refine ev_seq fun K1 h1 => ev_rf mB ?_
  repeat refine dr_act wN mb ma mc mT mR ?_
  refine dr_nil (h1 _ ?_); clear h1 K1
  refine ev_seq fun K1 h1 => ev_rf mB ?_
  repeat refine dr_act wN mb ma mc mT mR ?_
  refine dr_callR [0] [] wN mr mb mx (c53 ws k hl hk hk2) (.ren rfl rfl (.ren rfl rfl .nil)) (handW mr) ⟨⟨by decide, nz⟩, Nat.le_of_ble_eq_true rfl⟩ (v := vi (k + 4 * (ws.length : Nat))) rfl mT (wrW.trans mRd) ?_
  repeat refine dr_act wN mb ma mc mT mR ?_
  refine dr_nil (h1 _ ?_); clear h1
  refine ev_seq fun K1 h1 => ev_rf mB ?_
  repeat refine dr_act wN mb ma mc mT mR ?_
  refine dr_nil (h1 _ (ev_ret ?_)); clear h1
  exact retRT [] [4] (hR := ⟨⟨_, rfl, rfl, rfl, rnMap (g := cW) (fun _ => rfl) _⟩, trivial⟩)

def hdW (ws : List Win) (k : Int) : Int := if ws = mkW k ws.length then k + 4 * (ws.length : Nat) else -1

theorem c66 (ws : List Win) (k : Int) (hl : ws.length ≤ 1048576) (hk : 0 ≤ k) (hk2 : k ≤ 4000000) : Good Try.prog 66 [eR ws, vi k] (vi (hdW ws k)) [] := by
  refine good_of (E := En 12) (fn := Try.f66) (by kernel_rfl) (by kernel_rfl) rfl rfl (by simp only [List.length_cons, List.length_nil]; decide) (fun C0 => ?_)
  have hneg : hdW ws k < 0 → hdW ws k = -1 := by
    intro h
    unfold hdW at h ⊢
    split
    · rename_i e; rw [if_pos e] at h; omega
    · rfl
  simp only [argT, Nat.reduceAdd]
  refine ev_seq fun K1 h1 => ev_rf mB ?_
  repeat refine dr_act wN mb ma mc mT mR ?_
  refine dr_nil (h1 _ ?_); clear h1 K1
  refine ev_seq fun K1 h1 => ev_rf mB ?_
  repeat refine dr_act wN mb ma mc mT mR ?_
  refine dr_callF wN mr mb mx mr (c54 ws k hl hk hk2) (Nat.le_of_ble_eq_true rfl) mv mT mN ?_
  repeat refine dr_act wN mb ma mc mT mR ?_
  refine dr_nil (h1 _ ?_); clear h1 K1
  refine ev_seq fun K1 h1 => ev_seq fun K2 h2 => ev_rf mB ?_
  repeat refine dr_act wN mb ma mc mT mR ?_
  refine dr_nil (h2 _ ?_); clear h2 K2
  refine ev_cond (decide (hdW ws k < 0)) ml (fun h => ?_) (fun h => ev_skip (h1 _ ?_))
  · have hlt := of_decide_eq_true h
    refine ev_seq fun K2 h2 => ev_rf mB ?_
    repeat refine dr_act wN mb ma mc mT mR ?_
    refine dr_nil (h2 _ (ev_ret ?_)); clear h2 h1
    exact retT [4] (hv := by rw [hneg hlt]; rfl)
  · clear h1 K1
    refine ev_seq fun K2 h2 => ev_rf mB ?_
    repeat refine dr_act wN mb ma mc mT mR ?_
    refine dr_nil (h2 _ (ev_ret ?_)); clear h2
    exact retT [4] (hv := rfl)
end Go.Ev
namespace Go.Ev
open Go Go.RowKit Go.Proofs

def okR (m : List (List Int)) (ws : List Win) : Bool := okM m && ws.all (okW m) && decide ((ws.length : Int) ≤ 12)

theorem take_w {ws : List Win} {i : Nat} (h : i < ws.length) : ws.take (i + 1) = ws.take i ++ [ws.getD i wz] := by
  rw [List.take_succ_eq_append_getElem h, List.getD_eq_getElem?_getD, List.getElem?_eq_getElem h]; rfl
theorem mem_w {ws : List Win} {i : Nat} (h : i < ws.length) : ws.getD i wz ∈ ws := by
  rw [List.getD_eq_getElem?_getD, List.getElem?_eq_getElem h]; exact List.getElem_mem h

theorem c132 (m : List (List Int)) (ws : List Win) (hl1 : m.length ≤ 1048576) (hl2 : ∀ r, r ∈ m → r.length ≤ 1048576) (hw : ws.length ≤ 1048576) : Good Try.prog 132 [eMem m, eR ws] (vb (okR m ws)) [] := by
  refine good_of (E := En 33) (fn := Try.f132) (by kernel_rfl) (by kernel_rfl) rfl rfl (by simp only [List.length_cons, List.length_nil]; decide) (fun C0 => ?_)
  simp only [argT, eR, eWS]
  refine ev_seq fun K1 h1 => ev_rf mB ?_
  repeat refine dr_act wN mb ma mc mT mR ?_
  refine dr_nil (h1 _ ?_); clear h1 K1
  refine ev_seq fun K1 h1 => ?_
  refine ev_seq fun K2 h2 => ev_rf mB ?_
  repeat refine dr_act wN mb ma mc mT mR ?_
  refine dr_nil (h2 _ ?_); clear h2 K2
  refine ev_block (ev_loop (α := {i : Nat // i ≤ ws.length ∧ (ws.take i).all (okW m) = true}) (fun i => ⟨[(2, .ptr (0, none) 0 0), (3, .ptr (8, none) 0 0), (5, vi i.1)], [(0, ⟨31, 1, [[eM m]]⟩), (8, ⟨98, 1, [[.list 4 (ws.map cW)]]⟩)], 32⟩) (fun i => ws.length - i.1) ⟨0, Nat.zero_le _, rfl⟩ (weak_ren [] mK mK mD mQ) (fun ⟨i, hi, ht⟩ => ?_))
  refine ev_seq fun K2 h2 => ev_seq fun K3 h3 => ev_rf mB ?_
  repeat refine dr_act wN mb ma mc mT mR ?_
  cases hd : decide ((i : Int) < (ws.length : Nat))
  · have hge := of_decide_eq_false hd
    obtain rfl : i = ws.length := by omega
    rw [List.take_length] at ht
    iterate 2 refine dr_skip wG mT ?_
    repeat refine dr_act wN mb ma mc mT mR ?_
    refine dr_nil (h3 _ ?_); clear h3
    refine ev_cond false mlq (fun h => by cases h) (fun h => ev_exit ?_)
    simp only [seqK, loopK, blkK, ↓reduceIte]
    refine h1 _ ?_; clear h1 h2
    refine ev_seq fun K1 h1 => ev_rf mB ?_
    repeat refine dr_act wN mb ma mc mT mR ?_
    refine dr_callF wN mr mb mx mr (c164 m (by omega)) (Nat.le_of_ble_eq_true rfl) mv mT mN ?_
    repeat refine dr_act wN mb ma mc mT mR ?_
    cases hM : okM m
    · iterate 4 refine dr_skip wG mT ?_
      repeat refine dr_act wN mb ma mc mT mR ?_
      refine dr_nil (h1 _ (ev_ret ?_)); clear h1
      exact retT [4] (hv := by rw [okR, hM]; rfl)
    repeat refine dr_act wG mb ma mc mT mR ?_
    repeat refine dr_act wN mb ma mc mT mR ?_
    refine dr_nil (h1 _ (ev_ret ?_)); clear h1
    exact retT [4] (hv := by rw [okR, hM, Bool.true_and]; exact congrArg (fun b => vb b) (by rw [ht, Bool.true_and]))
  have hlt : i < ws.length := by have := of_decide_eq_true hd; omega
  repeat refine dr_act wG mb ma mc mT mR ?_
  repeat refine dr_act wN mb ma mc mT mR ?_
  refine dr_nil (h3 _ ?_); clear h3
  cases he : decide ((i : Int) ≤ 12)
  · have hgt := of_decide_eq_false he
    refine ev_cond false mlq (fun h => by cases h) (fun h => ev_exit ?_)
    simp only [seqK, loopK, blkK, ↓reduceIte]
    refine h1 _ ?_; clear h1 h2
    refine ev_seq fun K1 h1 => ev_rf mB ?_
    repeat refine dr_act wN mb ma mc mT mR ?_
    refine dr_callF wN mr mb mx mr (c164 m (by omega)) (Nat.le_of_ble_eq_true rfl) mv mT mN ?_
    repeat refine dr_act wN mb ma mc mT mR ?_
    cases hM : okM m
    · iterate 4 refine dr_skip wG mT ?_
      repeat refine dr_act wN mb ma mc mT mR ?_
      refine dr_nil (h1 _ (ev_ret ?_)); clear h1
      exact retT [4] (hv := by rw [okR, hM]; rfl)
    repeat refine dr_act wG mb ma mc mT mR ?_
    repeat refine dr_act wN mb ma mc mT mR ?_
    refine dr_nil (h1 _ (ev_ret ?_)); clear h1
    exact retT [4] (hv := by rw [okR, hM, Bool.true_and]; exact congrArg (fun b => vb b) (by rw [decide_eq_false (by omega : ¬ (ws.length : Int) ≤ 12), Bool.and_false]))
  refine ev_cond true mlq (fun h => ev_skip (h2 _ ?_)) (fun h => by cases h)
  clear h1 h2
  refine ev_seq fun K2 h2 => ev_block ?_
  refine ev_seq fun K3 h3 => ev_reg mB ?_
  repeat refine dr_act wN mb ma mc mT mR ?_
  refine dr_ix (wz : Win) wN mr mb ml ml mS (by omega) mT ?_
  repeat refine dr_act wN mb ma mc mT mR ?_
  refine dr_callF wN mr mb mx mr (c144 m (ws.getD i wz) hl1 hl2) (Nat.le_of_ble_eq_true rfl) mv mT mN ?_
  repeat refine dr_act wN mb ma mc mT mR ?_
  refine dr_nil ⟨fun _ => by kernel_rfl, h3 _ ?_⟩; clear h3
  cases hR : okW m (ws.getD i wz)
  · refine ev_cond true mlq (fun h => ?_) (fun h => by cases h)
    refine ev_seq fun K3 h3 => ev_rf mB ?_
    repeat refine dr_act wN mb ma mc mT mR ?_
    refine dr_nil (h3 _ (ev_ret ?_)); clear h3 h2
    have e : ws.all (okW m) = false := Bool.eq_false_iff.2 fun e => by
      have := List.all_eq_true.1 e _ (mem_w hlt)
      rw [hR] at this; cases this
    exact retT [4] (hv := by rw [okR, e, Bool.and_false]; rfl)
  · refine ev_cond false mlq (fun h => by cases h) (fun h => ev_skip (h2 _ ?_)); clear h2
    refine ev_rf mB ?_
    repeat refine dr_act wN mb ma mc mT mR ?_
    refine dr_nil ⟨⟨i + 1, hlt, by rw [take_w hlt, List.all_append, ht]; simp only [List.all_cons, List.all_nil, Bool.and_true, Bool.true_and]; exact hR⟩, by simp only []; omega, ?_⟩
    rw [w64p (n := ws.length) hlt (by omega)]
    exact weak_ren [] mK mK mD mQ

/-- The bytes of a rope's text. -/
def lenR : List Win → Int
  | [] => 0
  | w :: ws => w.n + lenR ws
theorem lenR_app : ∀ (a b : List Win), lenR (a ++ b) = lenR a + lenR b
  | [], b => by simp [lenR]
  | x :: a, b => by simp only [List.cons_append, lenR, lenR_app a b]; omega
theorem lenR_le : ∀ (ws : List Win), (∀ w, w ∈ ws → 0 ≤ w.n ∧ w.n ≤ 64) → 0 ≤ lenR ws ∧ lenR ws ≤ 64 * (ws.length : Int)
  | [], _ => by simp [lenR]
  | x :: a, h => by
    have h1 := h x (by simp)
    have h2 := lenR_le a fun w hw => h w (by simp [hw])
    simp only [lenR, List.length_cons]; omega

theorem c134 (ws : List Win) (hw : ws.length ≤ 1048576) (hb : ∀ w, w ∈ ws → 0 ≤ w.n ∧ w.n ≤ 64) : Good Try.prog 134 [eR ws] (vi (lenR ws)) [] := by
  refine good_of (E := En 21) (fn := Try.f134) (by kernel_rfl) (by kernel_rfl) rfl rfl (by simp only [List.length_cons, List.length_nil]; decide) (fun C0 => ?_)
  simp only [argT, eR, eWS]
  iterate 2
    refine ev_seq fun K1 h1 => ev_rf mB ?_
    repeat refine dr_act wN mb ma mc mT mR ?_
    refine dr_nil (h1 _ ?_); clear h1 K1
  refine ev_seq fun K1 h1 => ?_
  refine ev_seq fun K2 h2 => ev_rf mB ?_
  repeat refine dr_act wN mb ma mc mT mR ?_
  refine dr_nil (h2 _ ?_); clear h2 K2
  refine ev_block (ev_loop (α := {i : Nat // i ≤ ws.length}) (fun i => ⟨[(1, .ptr (0, none) 0 0), (3, vi (lenR (ws.take i.1))), (4, vi i.1)], [(0, ⟨98, 1, [[.list 4 (ws.map cW)]]⟩)], 32⟩) (fun i => ws.length - i.1) ⟨0, Nat.zero_le _⟩ (weak_ren [] mK mK mD mQ) (fun ⟨i, hi⟩ => ?_))
  refine ev_seq fun K2 h2 => ev_seq fun K3 h3 => ev_rf mB ?_
  repeat refine dr_act wN mb ma mc mT mR ?_
  refine dr_nil (h3 _ ?_); clear h3
  refine ev_cond _ ml (fun h => ev_skip (h2 _ ?_)) (fun h => ev_exit ?_)
  · clear h1 h2
    have hlt : i < ws.length := by have := of_decide_eq_true h; omega
    have h1 := lenR_le (ws.take i) fun w hw => hb w (List.mem_of_mem_take hw)
    rw [List.length_take] at h1
    have h2 := hb _ (mem_w hlt)
    have e1 : IntKind.i64.wrap (lenR (ws.take i) + (ws.getD i wz).n) = lenR (ws.take (i + 1)) := by
      rw [take_w hlt, lenR_app, wrap_of (by omega) (by omega)]; simp only [lenR]; omega
    refine ev_seq fun K2 h2 => ev_block (ev_rf mB ?_)
    repeat refine dr_act wN mb ma mc mT mR ?_
    refine dr_ix (wz : Win) wN mr mb ml ml mS (by omega) mT ?_
    repeat refine dr_act wN mb ma mc mT mR ?_
    rw [Int.toNat_natCast, e1]
    refine dr_nil (h2 _ (ev_rf mB ?_)); clear h2
    repeat refine dr_act wN mb ma mc mT mR ?_
    refine dr_nil ⟨⟨i + 1, by omega⟩, by simp only []; omega, ?_⟩
    rw [w64p (n := ws.length) (by omega) (by omega)]
    exact weak_ren [] mK mK mD mQ
  · simp only [seqK, loopK, blkK, ↓reduceIte]
    refine h1 _ ?_; clear h1 h2
    have hge := of_decide_eq_false h
    obtain rfl : i = ws.length := by omega
    refine ev_seq fun K1 h1 => ev_rf mB ?_
    repeat refine dr_act wN mb ma mc mT mR ?_
    refine dr_nil (h1 _ (ev_ret ?_)); clear h1
    exact retT [2] (hv := by rw [List.take_length]; rfl)

theorem okR_n {m : List (List Int)} {ws : List Win} (h : okR m ws = true) : ∀ w, w ∈ ws → 0 ≤ w.n ∧ w.n ≤ 64 := by
  simp only [okR, Bool.and_eq_true] at h
  intro w hw
  have k := okW_GW (List.all_eq_true.1 h.1.2 w hw)
  have := k.c64
  have := k.n1
  exact ⟨k.n0, by omega⟩

def cutR (m : List (List Int)) (ws : List Win) (i : Int) : Bool := okR m ws && decide (0 ≤ i ∧ i ≤ lenR ws)

theorem c115 (m : List (List Int)) (ws : List Win) (i : Int) (hl1 : m.length ≤ 1048576) (hl2 : ∀ r, r ∈ m → r.length ≤ 1048576) (hw : ws.length ≤ 1048576) : Good Try.prog 115 [eMem m, eR ws, vi i] (vb (cutR m ws i)) [] := by
  refine good_of (E := En 16) (fn := Try.f115) (by kernel_rfl) (by kernel_rfl) rfl rfl (by simp only [List.length_cons, List.length_nil]; decide) (fun C0 => ?_)
  simp only [argT, Nat.reduceAdd]
  refine ev_seq fun K1 h1 => ev_rf mB ?_
  repeat refine dr_act wN mb ma mc mT mR ?_
  refine dr_nil (h1 _ ?_); clear h1 K1
  refine ev_seq fun K1 h1 => ev_rf mB ?_
  repeat refine dr_act wN mb ma mc mT mR ?_
  refine dr_callF wN mr mb mx mr (c132 m ws hl1 hl2 hw) (Nat.le_of_ble_eq_true rfl) mv mT mN ?_
  repeat refine dr_act wN mb ma mc mT mR ?_
  cases hR : okR m ws
  · iterate 4 refine dr_skip wG mT ?_
    repeat refine dr_act wN mb ma mc mT mR ?_
    refine dr_nil (h1 _ (ev_ret ?_)); clear h1
    exact retT [6] (hv := by rw [cutR, hR]; rfl)
  repeat refine dr_act wG mb ma mc mT mR ?_
  refine dr_callF wG mr mb mx mr (c134 ws hw (okR_n hR)) (Nat.le_of_ble_eq_true rfl) mv mT mN ?_
  refine dr_callF wG mr mb mx mr (c133 i 0 (lenR ws)) (Nat.le_of_ble_eq_true rfl) mv mT mN ?_
  repeat refine dr_act wN mb ma mc mT mR ?_
  refine dr_nil (h1 _ (ev_ret ?_)); clear h1
  exact retT [6] (hv := by rw [cutR, hR]; rfl)

abbrev zR : V := .agg [.val (.slice none 0 0)]

theorem c118a (ws : List Win) (hw : ws.length ≤ 12) : GoodR Try.prog 118 [oR 0 ws] [rWS ws] (.tup [oR 0 ws, vb true]) [some (rWS ws)] := by
  refine goodR_of (E := En 10 1) (fn := Try.f118) (by kernel_rfl) (by kernel_rfl) rfl rfl (by simp only [List.length_cons, List.length_nil]; decide) ⟨rfl, Nat.le_refl 1⟩ rfl ⟨okMap (fun _ => rfl) _, trivial⟩ (fun C0 => ?_)
  simp only [argT, rsT, Nat.reduceAdd, List.length_cons, List.length_nil]
  refine ev_seq fun K1 h1 => ev_rf mB ?_
  repeat refine dr_act wN mb ma mc mT mR ?_
  refine dr_nil (h1 _ ?_); clear h1 K1
  refine ev_seq fun K1 h1 => ?_
  refine ev_seq fun K2 h2 => ev_rf mB ?_
  repeat refine dr_act wN mb ma mc mT mR ?_
  refine dr_nil (h2 _ ?_); clear h2
  refine ev_cond _ ml (fun h => absurd (of_decide_eq_true h) (by omega)) (fun h => ev_skip (h1 _ ?_)); clear h1
  refine ev_seq fun K1 h1 => ev_rf mB ?_
  repeat refine dr_act wN mb ma mc mT mR ?_
  refine dr_nil (h1 _ (ev_ret ?_)); clear h1
  exact retLR [] (res' := [.cell 2 98, .tmp 3]) mr (.cell nT mZ ma mc mP (.tmp nT mL .nil)) rfl (by decide) rfl ⟨⟨_, rfl, rfl, rfl, rnMap (g := cW) (fun _ => rfl) _⟩, trivial⟩

theorem c118b (ws : List Win) (hw : 12 < ws.length) : GoodR Try.prog 118 [oR 0 ws] [rWS ws] (.tup [zR, vb false]) [some (rWS ws)] := by
  refine goodR_of (E := En 10 1) (fn := Try.f118) (by kernel_rfl) (by kernel_rfl) rfl rfl (by simp only [List.length_cons, List.length_nil]; decide) ⟨rfl, Nat.le_refl 1⟩ rfl ⟨okMap (fun _ => rfl) _, trivial⟩ (fun C0 => ?_)
  simp only [argT, rsT, Nat.reduceAdd, List.length_cons, List.length_nil]
  refine ev_seq fun K1 h1 => ev_rf mB ?_
  repeat refine dr_act wN mb ma mc mT mR ?_
  refine dr_nil (h1 _ ?_); clear h1 K1
  refine ev_seq fun K1 h1 => ?_
  refine ev_seq fun K2 h2 => ev_rf mB ?_
  repeat refine dr_act wN mb ma mc mT mR ?_
  refine dr_nil (h2 _ ?_); clear h2
  refine ev_cond _ ml (fun h => ?_) (fun h => absurd (of_decide_eq_false h) (by omega)); clear h1
  refine ev_seq fun K1 h1 => ev_rf mB ?_
  repeat refine dr_act wN mb ma mc mT mR ?_
  refine dr_nil (h1 _ (ev_ret ?_)); clear h1
  exact retLR [] (res' := [.cell 2 98, .tmp 3]) mr (.cell nT mZ ma mc mP (.tmp nT mL .nil)) rfl (by decide) rfl ⟨⟨_, rfl, rfl, rfl, rnMap (g := cW) (fun _ => rfl) _⟩, trivial⟩

theorem c119 (a b : List Win) (ha : a.length ≤ 1048576) (hb : b.length ≤ 1048576) : Good Try.prog 119 [eR a, eR b] (oR 0 (a ++ b)) [rWS (a ++ b)] := by
  refine good_of (E := En 13) (fn := Try.f119) (by kernel_rfl) (by kernel_rfl) rfl rfl (by simp only [List.length_cons, List.length_nil]; decide) (fun C0 => ?_)
  simp only [argT, eR, eWS]
  refine ev_seq fun K1 h1 => ev_rf mB ?_
  repeat refine dr_act wN mb ma mc mT mR ?_
  refine dr_nil (h1 _ ?_); clear h1 K1
  refine ev_seq fun K1 h1 => ev_reg mB ?_
  repeat refine dr_act wN mb ma mc mT mR ?_
  refine dr_act wN mb ma (by exact ⟨by simp only [maxLen]; omega, by omega⟩) mT mR ?_
  repeat refine dr_act wN mb ma mc mT mR ?_
  refine dr_act wN mb ma (by exact ⟨by simp only [maxLen]; omega, by omega⟩) mT mR ?_
  repeat refine dr_act wN mb ma mc mT mR ?_
  refine dr_nil ⟨fun _ => by kernel_rfl, h1 _ (ev_ret ?_)⟩
  refine retC [72] (hv := ?_) (hR := ⟨⟨?_, okRW⟩, trivial⟩)
  · simp only [oR, List.length_append]; rfl
  · show some (Root.mk 32 4 (a.map cW ++ b.map cW)) = _
    rw [← List.map_append]
end Go.Ev
namespace Go.Ev
open Go Go.RowKit Go.Proofs

/-- A part of a split's step: what goes to the first rope, what to the second. -/
def toF (L i d : Int) (w : Win) : List Win := if d + w.n ≤ i ∧ (w.n > 0 ∨ d < i ∨ i = L) then [w] else if d ≥ i then [] else [⟨w.a, w.s, i - d, i - d⟩]
def toS (L i d : Int) (w : Win) : List Win := if d + w.n ≤ i ∧ (w.n > 0 ∨ d < i ∨ i = L) then [] else if d ≥ i then [w] else [⟨w.a, w.s + (i - d), w.n - (i - d), w.c - (i - d)⟩]

def splF (L i : Int) : List Win → Int → List Win
  | [], _ => []
  | w :: ws, d => toF L i d w ++ splF L i ws (d + w.n)
def splS (L i : Int) : List Win → Int → List Win
  | [], _ => []
  | w :: ws, d => toS L i d w ++ splS L i ws (d + w.n)

theorem splF_len (L i : Int) : ∀ (ws : List Win) (d : Int), (splF L i ws d).length ≤ ws.length
  | [], d => Nat.le_refl _
  | w :: ws, d => by
    have h := splF_len L i ws (d + w.n)
    have : (toF L i d w).length ≤ 1 := by unfold toF; split <;> (try split) <;> simp
    simp only [splF, List.length_append, List.length_cons]; omega
theorem splS_len (L i : Int) : ∀ (ws : List Win) (d : Int), (splS L i ws d).length ≤ ws.length
  | [], d => Nat.le_refl _
  | w :: ws, d => by
    have h := splS_len L i ws (d + w.n)
    have : (toS L i d w).length ≤ 1 := by unfold toS; split <;> (try split) <;> simp
    simp only [splS, List.length_append, List.length_cons]; omega
theorem splF_app (L i : Int) (w : Win) : ∀ (ws : List Win) (d : Int), splF L i (ws ++ [w]) d = splF L i ws d ++ toF L i (d + lenR ws) w
  | [], d => by simp [splF, lenR]
  | x :: ws, d => by simp only [List.cons_append, splF, splF_app L i w ws, lenR, List.append_assoc, Int.add_assoc]
theorem splS_app (L i : Int) (w : Win) : ∀ (ws : List Win) (d : Int), splS L i (ws ++ [w]) d = splS L i ws d ++ toS L i (d + lenR ws) w
  | [], d => by simp [splS, lenR]
  | x :: ws, d => by simp only [List.cons_append, splS, splS_app L i w ws, lenR, List.append_assoc, Int.add_assoc]

/-- A rope that may be split. -/
structure SplOK (ws : List Win) (i : Int) : Prop where
  l : ws.length ≤ 12
  n : ∀ w, w ∈ ws → 0 ≤ w.n ∧ w.n ≤ 64 ∧ 0 ≤ w.s ∧ w.s ≤ 64 ∧ 0 ≤ w.c ∧ w.c ≤ 64
  i : 0 ≤ i ∧ i ≤ lenR ws
theorem SplOK.b {ws : List Win} {i : Int} (h : SplOK ws i) : ∀ w, w ∈ ws → 0 ≤ w.n ∧ w.n ≤ 64 := fun w hw => ⟨(h.n w hw).1, (h.n w hw).2.1⟩

theorem cutR_ok {m : List (List Int)} {ws : List Win} {i : Int} (h : cutR m ws i = true) : SplOK ws i := by
  simp only [cutR, okR, Bool.and_eq_true, decide_eq_true_eq] at h
  refine ⟨by omega, fun w hw => ?_, h.2⟩
  have k := okW_GW (List.all_eq_true.1 h.1.1.2 w hw)
  have h1 := k.c64
  have h2 := k.n1
  have h3 := k.c1
  have h4 := k.row
  have h5 := k.s0
  have h6 := k.n0
  omega

theorem splF_step {L i : Int} {ws : List Win} {k : Nat} (h : k < ws.length) : splF L i (ws.take (k + 1)) 0 = splF L i (ws.take k) 0 ++ toF L i (lenR (ws.take k)) (ws.getD k wz) := by
  rw [take_w h, splF_app, Int.zero_add]
theorem splS_step {L i : Int} {ws : List Win} {k : Nat} (h : k < ws.length) : splS L i (ws.take (k + 1)) 0 = splS L i (ws.take k) 0 ++ toS L i (lenR (ws.take k)) (ws.getD k wz) := by
  rw [take_w h, splS_app, Int.zero_add]
theorem lenR_step {ws : List Win} {k : Nat} (h : k < ws.length) : lenR (ws.take (k + 1)) = lenR (ws.take k) + (ws.getD k wz).n := by
  rw [take_w h, lenR_app]; simp only [lenR]; omega
theorem mapW (f : List Win) (w : Win) : f.map cW ++ [cW w] = (f ++ [w]).map cW := by rw [List.map_append]; rfl

theorem c117 (ws : List Win) (i : Int) (h : SplOK ws i) : Good Try.prog 117 [eR ws, vi i] (.tup [oR 0 (splF (lenR ws) i ws 0), oR 1 (splS (lenR ws) i ws 0)]) [rWS (splF (lenR ws) i ws 0), rWS (splS (lenR ws) i ws 0)] := by
  refine good_of (E := En 99) (fn := Try.f117) (by kernel_rfl) (by kernel_rfl) rfl rfl (by simp only [List.length_cons, List.length_nil]; decide) (fun C0 => ?_)
  have hl := h.l
  have hi0 := h.i.1
  have hi1 := h.i.2
  have hL := lenR_le ws h.b
  simp only [argT, eR, eWS]
  refine ev_seq fun K1 h1 => ev_rf mB ?_
  repeat refine dr_act wN mb ma mc mT mR ?_
  refine dr_nil (h1 _ ?_); clear h1 K1
  refine ev_seq fun K1 h1 => ev_rf mB ?_
  repeat refine dr_act wN mb ma mc mT mR ?_
  refine dr_nil (h1 _ ?_); clear h1 K1
  refine ev_seq fun K1 h1 => ev_rf mB ?_
  repeat refine dr_act wN mb ma mc mT mR ?_
  refine dr_nil (h1 _ ?_); clear h1 K1
  refine ev_seq fun K1 h1 => ?_
  refine ev_seq fun K2 h2 => ev_rf mB ?_
  repeat refine dr_act wN mb ma mc mT mR ?_
  refine dr_nil (h2 _ ?_); clear h2 K2
  refine ev_block (ev_loop (α := {k : Nat // k ≤ ws.length}) (fun k => ⟨[(1, vi i), (2, .ptr (0, none) 0 0), (4, .ptr (8, none) 0 0), (5, .ptr (16, none) 0 0), (6, .ptr (56, none) 0 0), (7, .ptr (64, none) 0 0), (8, vi (lenR (ws.take k.1))), (9, vi k.1)], [(0, ⟨98, 1, [[.list 4 (ws.map cW)]]⟩), (8, ⟨98, 1, [[.val (.slice none 0 0)]]⟩), (16, ⟨98, 1, [[.val (.slice none 0 0)]]⟩), (56, ⟨98, 1, [[.ref (24, none) 0 (splF (lenR ws) i (ws.take k.1) 0).length]]⟩), (64, ⟨98, 1, [[.ref (40, none) 0 (splS (lenR ws) i (ws.take k.1) 0).length]]⟩), (24, rWS (splF (lenR ws) i (ws.take k.1) 0)), (40, rWS (splS (lenR ws) i (ws.take k.1) 0))], 104⟩) (fun k => ws.length - k.1) ⟨0, Nat.zero_le _⟩ (weak_ren [] mK (chkR_cons mK (chkR_cons mK (chkR_cons mK (chkR_cons mK (chkR_cons mK (chkRm rfl (by decide) rfl (fun _ => rfl) (fun _ => rfl) (chkRm rfl (by decide) rfl (fun _ => rfl) (fun _ => rfl) trivial))))))) mD mQ) (fun ⟨k, hk⟩ => ?_))
  refine ev_seq fun K2 h2 => ev_seq fun K3 h3 => ev_rf mB ?_
  repeat refine dr_act wN mb ma mc mT mR ?_
  refine dr_nil (h3 _ ?_); clear h3
  refine ev_cond _ ml (fun hc => ev_skip (h2 _ ?_)) (fun hc => ev_exit ?_)
  · clear h1 h2
    have hlt : k < ws.length := by have := of_decide_eq_true hc; omega
    have hf1 := splF_len (lenR ws) i (ws.take k) 0
    have hs1 := splS_len (lenR ws) i (ws.take k) 0
    have hd := lenR_le (ws.take k) fun w hw => h.b w (List.mem_of_mem_take hw)
    rw [List.length_take] at hf1 hs1 hd
    have hsf := splF_step (L := lenR ws) (i := i) hlt
    have hss := splS_step (L := lenR ws) (i := i) hlt
    have hld := lenR_step hlt
    have hw := h.n _ (mem_w hlt)
    have c134' := c134 ws (by omega) h.b
    generalize hfe : splF (lenR ws) i (ws.take k) 0 = f at *
    generalize hse : splS (lenR ws) i (ws.take k) 0 = s at *
    generalize hde : lenR (ws.take k) = d at *
    have w1 : IntKind.i64.wrap (d + (ws.getD k wz).n) = d + (ws.getD k wz).n := wrap_of (by omega) (by omega)
    generalize hwe : ws.getD k wz = w at *
    refine ev_seq fun K2 h2 => ev_block ?_
    refine ev_seq fun K3 h3 => ev_rf mB ?_
    repeat refine dr_act wN mb ma mc mT mR ?_
    refine dr_ix (wz : Win) wN mr mb ml ml mS (by omega) mT ?_
    rw [Int.toNat_natCast, hwe]
    repeat refine dr_act wN mb ma mc mT mR ?_
    refine dr_nil (h3 _ ?_); clear h3
    refine ev_cut ⟨[(1, vi i), (2, .ptr (0, none) 0 0), (4, .ptr (8, none) 0 0), (5, .ptr (16, none) 0 0), (6, .ptr (56, none) 0 0), (7, .ptr (64, none) 0 0), (8, vi d), (9, vi k), (10, .ptr (184, none) 0 0)], [(0, ⟨98, 1, [[.list 4 (ws.map cW)]]⟩), (8, ⟨98, 1, [[.val (.slice none 0 0)]]⟩), (16, ⟨98, 1, [[.val (.slice none 0 0)]]⟩), (184, ⟨32, 4, [cW w]⟩), (56, ⟨98, 1, [[.ref (24, none) 0 (f ++ toF (lenR ws) i d w).length]]⟩), (64, ⟨98, 1, [[.ref (40, none) 0 (s ++ toS (lenR ws) i d w).length]]⟩), (24, rWS (f ++ toF (lenR ws) i d w)), (40, rWS (s ++ toS (lenR ws) i d w))], 3000⟩ (ev_block ?_) ?_
    · refine ev_cut ⟨[(1, vi i), (2, .ptr (0, none) 0 0), (4, .ptr (8, none) 0 0), (5, .ptr (16, none) 0 0), (6, .ptr (56, none) 0 0), (7, .ptr (64, none) 0 0), (8, vi d), (9, vi k), (10, .ptr (184, none) 0 0), (54, vb (decide (d + w.n ≤ i ∧ (w.n > 0 ∨ d < i ∨ i = lenR ws))))], [(0, ⟨98, 1, [[.list 4 (ws.map cW)]]⟩), (8, ⟨98, 1, [[.val (.slice none 0 0)]]⟩), (16, ⟨98, 1, [[.val (.slice none 0 0)]]⟩), (184, ⟨32, 4, [cW w]⟩), (56, ⟨98, 1, [[.ref (24, none) 0 f.length]]⟩), (64, ⟨98, 1, [[.ref (40, none) 0 s.length]]⟩), (24, rWS f), (40, rWS s)], 1000⟩ (ev_rf mB ?_) ?_
      · repeat refine dr_act wN mb ma mc mT mR ?_
        rw [w1]
        repeat refine dr_act wN mb ma mc mT mR ?_
        cases hA : decide (d + w.n ≤ i)
        · iterate 4 refine dr_skip wG mT ?_
          iterate 3 refine dr_skip wU mT ?_
          iterate 2 refine dr_skip wG mT ?_
          iterate 4 refine dr_skip wU mT ?_
          refine dr_skip wG mT ?_
          repeat refine dr_act wN mb ma mc mT mR ?_
          rw [decide_eq_false fun h => of_decide_eq_false hA h.1]
          exact dr_nil (weak_ren [] mK (chkR_cons mK (chkR_cons mK (chkR_cons mK (chkR_cons mK (chkR_cons mK (chkR_cons mK (chkRm rfl (by decide) rfl (fun _ => rfl) (fun _ => rfl) (chkRm rfl (by decide) rfl (fun _ => rfl) (fun _ => rfl) trivial)))))))) mD mQ)
        have hA' := of_decide_eq_true hA
        iterate 4 refine dr_act wG mb ma mc mT mR ?_
        cases hB : decide (w.n > 0)
        rotate_left
        · have hB' := of_decide_eq_true hB
          iterate 3 refine dr_skip wG mT ?_
          iterate 2 refine dr_act wG mb ma mc mT mR ?_
          iterate 4 refine dr_skip wG mT ?_
          refine dr_act wG mb ma mc mT mR ?_
          repeat refine dr_act wN mb ma mc mT mR ?_
          rw [decide_eq_true ⟨hA', .inl hB'⟩]
          exact dr_nil (weak_ren [] mK (chkR_cons mK (chkR_cons mK (chkR_cons mK (chkR_cons mK (chkR_cons mK (chkR_cons mK (chkRm rfl (by decide) rfl (fun _ => rfl) (fun _ => rfl) (chkRm rfl (by decide) rfl (fun _ => rfl) (fun _ => rfl) trivial)))))))) mD mQ)
        have hB' := of_decide_eq_false hB
        iterate 3 refine dr_act wG mb ma mc mT mR ?_
        cases hC : decide (d < i)
        rotate_left
        · have hC' := of_decide_eq_true hC
          iterate 2 refine dr_act wG mb ma mc mT mR ?_
          iterate 4 refine dr_skip wG mT ?_
          refine dr_act wG mb ma mc mT mR ?_
          repeat refine dr_act wN mb ma mc mT mR ?_
          rw [decide_eq_true ⟨hA', .inr (.inl hC')⟩]
          exact dr_nil (weak_ren [] mK (chkR_cons mK (chkR_cons mK (chkR_cons mK (chkR_cons mK (chkR_cons mK (chkR_cons mK (chkRm rfl (by decide) rfl (fun _ => rfl) (fun _ => rfl) (chkRm rfl (by decide) rfl (fun _ => rfl) (fun _ => rfl) trivial)))))))) mD mQ)
        have hC' := of_decide_eq_false hC
        iterate 4 refine dr_act wG mb ma mc mT mR ?_
        refine dr_callF wG mr mb mx mr c134' (Nat.le_of_ble_eq_true rfl) mv mT mN ?_
        iterate 2 refine dr_act wG mb ma mc mT mR ?_
        repeat refine dr_act wN mb ma mc mT mR ?_
        have e : (i == lenR ws) = decide (d + w.n ≤ i ∧ (w.n > 0 ∨ d < i ∨ i = lenR ws)) := by
          rw [Bool.eq_iff_iff, beq_iff_eq, decide_eq_true_eq]
          exact ⟨fun h => ⟨hA', .inr (.inr h)⟩, fun h => h.2.elim (fun h => absurd h hB') fun h => h.elim (fun h => absurd h hC') id⟩
        rw [e]
        exact dr_nil (weak_ren [] mK (chkR_cons mK (chkR_cons mK (chkR_cons mK (chkR_cons mK (chkR_cons mK (chkR_cons mK (chkRm rfl (by decide) rfl (fun _ => rfl) (fun _ => rfl) (chkRm rfl (by decide) rfl (fun _ => rfl) (fun _ => rfl) trivial)))))))) mD mQ)
      · refine ev_cond _ ml (fun hX => ?_) (fun hX => ?_)
        · have hX' := of_decide_eq_true hX
          refine ev_rf mB ?_
          repeat refine dr_act wN mb ma mc mT mR ?_
          refine dr_act wN mb ma (by exact ⟨⟨by simp only [maxLen]; omega, by omega⟩, rfl⟩) mT mR ?_
          repeat refine dr_act wN mb ma mc mT mR ?_
          have eF : toF (lenR ws) i d w = [w] := by rw [toF, if_pos hX']
          have eS : toS (lenR ws) i d w = [] := by rw [toS, if_pos hX']
          refine dr_nil (show Weak (En 99) C0 _ _ from ?_)
          rw [eF, eS, List.append_nil, List.length_append]
          exact weak_ren [(24, 1032)] mK (chkR_cons mK (chkR_cons mK (chkR_cons mK (chkR_cons mK (chkR_cons mK (chkR_cons mK (chkRm rfl (by decide) (mapW f w) (fun _ => rfl) (fun _ => rfl) (chkRm rfl (by decide) rfl (fun _ => rfl) (fun _ => rfl) trivial)))))))) mD mQ
        · have hX' := of_decide_eq_false hX
          refine ev_seq fun K4 h4 => ev_rf mB ?_
          repeat refine dr_act wN mb ma mc mT mR ?_
          refine dr_nil (h4 _ ?_); clear h4
          refine ev_cond _ ml (fun hY => ?_) (fun hY => ?_)
          · have hY' := of_decide_eq_true hY
            refine ev_rf mB ?_
            repeat refine dr_act wN mb ma mc mT mR ?_
            refine dr_act wN mb ma (by exact ⟨⟨by simp only [maxLen]; omega, by omega⟩, rfl⟩) mT mR ?_
            repeat refine dr_act wN mb ma mc mT mR ?_
            have eF : toF (lenR ws) i d w = [] := by rw [toF, if_neg hX', if_pos hY']
            have eS : toS (lenR ws) i d w = [w] := by rw [toS, if_neg hX', if_pos hY']
            refine dr_nil (show Weak (En 99) C0 _ _ from ?_)
            rw [eF, eS, List.append_nil, List.length_append]
            exact weak_ren [(40, 1064)] mK (chkR_cons mK (chkR_cons mK (chkR_cons mK (chkR_cons mK (chkR_cons mK (chkR_cons mK (chkRm rfl (by decide) rfl (fun _ => rfl) (fun _ => rfl) (chkRm rfl (by decide) (mapW s w) (fun _ => rfl) (fun _ => rfl) trivial)))))))) mD mQ
          · have hY' := of_decide_eq_false hY
            have hn : i - d < w.n := Int.not_le.1 fun hh => hX' ⟨by omega, .inr (.inl (by omega))⟩
            have v1 : IntKind.i64.wrap (i - d) = i - d := wrap_of (by omega) (by omega)
            have v2 : w64 (w.s + 0) = w.s := (wrap_of (by omega) (by omega)).trans (by omega)
            have v3 : w64 (i - d - 0) = i - d := (wrap_of (by omega) (by omega)).trans (by omega)
            have v4 : w64 (w.s + (i - d)) = w.s + (i - d) := wrap_of (by omega) (by omega)
            have v5 : w64 (w.n - (i - d)) = w.n - (i - d) := wrap_of (by omega) (by omega)
            have v6 : w64 (w.c - (i - d)) = w.c - (i - d) := wrap_of (by omega) (by omega)
            have k1 := c101 w 0 (i - d) (i - d)
            rw [v2, v3] at k1
            have k2 := c101 w (i - d) w.n w.c
            rw [v4, v5, v6] at k2
            refine ev_seq fun K4 h4 => ev_reg mB ?_
            repeat refine dr_act wN mb ma mc mT mR ?_
            rw [v1]
            refine dr_callF wN mr mb mx mr k1 (Nat.le_of_ble_eq_true rfl) mv mT mN ?_
            repeat refine dr_act wN mb ma mc mT mR ?_
            refine dr_act wN mb ma (by exact ⟨⟨by simp only [maxLen]; omega, by omega⟩, rfl⟩) mT mR ?_
            repeat refine dr_act wN mb ma mc mT mR ?_
            refine dr_nil ⟨fun _ => by kernel_rfl, h4 _ ?_⟩; clear h4
            refine ev_reg mB ?_
            repeat refine dr_act wN mb ma mc mT mR ?_
            rw [v1]
            refine dr_callF wN mr mb mx mr k2 (Nat.le_of_ble_eq_true rfl) mv mT mN ?_
            repeat refine dr_act wN mb ma mc mT mR ?_
            refine dr_act wN mb ma (by exact ⟨⟨by simp only [maxLen]; omega, by omega⟩, rfl⟩) mT mR ?_
            repeat refine dr_act wN mb ma mc mT mR ?_
            have eF : toF (lenR ws) i d w = [⟨w.a, w.s, i - d, i - d⟩] := by rw [toF, if_neg hX', if_neg hY']
            have eS : toS (lenR ws) i d w = [⟨w.a, w.s + (i - d), w.n - (i - d), w.c - (i - d)⟩] := by rw [toS, if_neg hX', if_neg hY']
            refine dr_nil ⟨fun _ => by kernel_rfl, show Weak (En 99) C0 _ _ from ?_⟩
            rw [eF, eS, List.length_append, List.length_append]
            exact weak_ren [(24, 1120), (40, 1240)] mK (chkR_cons mK (chkR_cons mK (chkR_cons mK (chkR_cons mK (chkR_cons mK (chkR_cons mK (chkRm rfl (by decide) (mapW f ⟨w.a, w.s, i - d, i - d⟩) (fun _ => rfl) (fun _ => rfl) (chkRm rfl (by decide) (mapW s ⟨w.a, w.s + (i - d), w.n - (i - d), w.c - (i - d)⟩) (fun _ => rfl) (fun _ => rfl) trivial)))))))) mD mQ
    · refine ev_rf mB ?_
      repeat refine dr_act wN mb ma mc mT mR ?_
      rw [w1]
      refine dr_nil (h2 _ (ev_rf mB ?_)); clear h2
      repeat refine dr_act wN mb ma mc mT mR ?_
      refine dr_nil ⟨⟨k + 1, by omega⟩, by simp only []; omega, ?_⟩
      rw [w64p (n := ws.length) (by omega) (by omega), ← hld, ← hsf, ← hss]
      exact weak_ren [] mK (chkR_cons mK (chkR_cons mK (chkR_cons mK (chkR_cons mK (chkR_cons mK (chkRm rfl (by decide) rfl (fun _ => rfl) (fun _ => rfl) (chkRm rfl (by decide) rfl (fun _ => rfl) (fun _ => rfl) trivial))))))) mD mQ
  · simp only [seqK, loopK, blkK, ↓reduceIte]
    refine h1 _ ?_; clear h1 h2
    have hge := of_decide_eq_false hc
    obtain rfl : k = ws.length := by omega
    simp only [List.take_length]
    refine ev_seq fun K1 h1 => ev_reg mB ?_
    repeat refine dr_act wN mb ma mc mT mR ?_
    refine dr_nil ⟨fun _ => by kernel_rfl, h1 _ (ev_ret ?_)⟩; clear h1
    exact retL [24, 40] (res' := [.cell 4 98, .cell 5 98]) mr (.cell nT mZ ma mc mP (.cell nT mZ ma mc mP .nil)) rfl mr (by decide) ⟨⟨mr, okRW⟩, ⟨mr, okRW⟩, trivial⟩
end Go.Ev
