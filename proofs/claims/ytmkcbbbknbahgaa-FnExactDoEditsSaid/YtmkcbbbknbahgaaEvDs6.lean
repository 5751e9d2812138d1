/- FnExactDoEdits returns true for every argument, and its arguments read as they did. No conditions. -/
import Derived.Below
import Derived.ChangeArms
import Derived.ChangeOld
import Derived.DataReads
import Derived.KernelRfl
import Derived.Laws.AppendOwn
import Derived.Laws.CopyRow
import Derived.Laws.Entries
import Derived.Laws.IdiomCopy
import Derived.Laws.MakeOwn
import Derived.Laws.OwnMore
import Derived.OpenShut
import Derived.Orders
import Derived.ProofKit
import Derived.ShutString
import Derived.SizedLaws
import Derived.Test.YtmkcbbbknbahgaaProg
import Derived.Test.YtmkcbbbknbahgaaRows
import Derived.WalkKit
import Derived.Test.YtmkcbbbknbahgaaEvDs5
set_option linter.unusedVariables false
set_option linter.unusedSimpArgs false
namespace Go.Ev
open Go Go.RowKit Go.Proofs

/-- Edits up to the first one that is not possible. -/
def runE : List Ed → Gp → Int → Int → Gp × Int × Int
  | [], g, s, i => (g, s, i)
  | e :: es, g, s, i =>
    match edG g e with
    | none => (g, s, i)
    | some (r, c) => runE es r (s + c) (i + 1)

def dS (g : Gp) (es : List Ed) : Option (Gp × Int × Int) := if okG g = true ∧ es.length ≤ 20 then some (runE es g 0 0) else none

abbrev oGS : Option (Gp × Int × Int) → V
  | some (g, s, i) => .tup [oG 0 g, vi s, vi i, vb true]
  | none => .tup [zG, vi 0, vi 0, vb false]
abbrev rGS : Option (Gp × Int × Int) → List Root
  | some (g, _, _) => [rM g.m]
  | none => []

theorem edG_cost {g r : Gp} {e : Ed} {c : Int} (hg : GG g) (h : edG g e = some (r, c)) : 0 ≤ c ∧ c ≤ 64 := by
  have h1 := hg.p0
  have h2 := hg.pq
  have h3 := hg.qn
  have h4 := hg.w.n1
  have h5 := hg.w.c64
  unfold edG at h
  split at h
  · rename_i hc
    split at h
    · cases h
    · simp only [Option.some.injEq, Prod.mk.injEq] at h
      obtain ⟨_, rfl⟩ := h
      have k : e.at_ ≤ g.w.n - (g.q - g.p) := hc.1.2
      have k0 := hc.1.1
      unfold mvC
      split <;> omega
  · cases h

/-- A state on the way. -/
structure OnWay (g0 : Gp) (es : List Ed) (v : Gp) (s : Int) (i : Nat) : Prop where
  le : i ≤ es.length
  g : GG v
  s0 : 0 ≤ s
  s1 : s ≤ 64 * (i : Int)
  r : runE (es.drop i) v s i = runE es g0 0 0

theorem OnWay.stop {g0 v : Gp} {es : List Ed} {s : Int} {i : Nat} (h : OnWay g0 es v s i) (hi : i < es.length) (e : edG v (es.getD i ez) = none) : runE es g0 0 0 = (v, s, (i : Int)) := by
  rw [← h.r, drop_e hi, runE, e]
theorem OnWay.step {g0 v r : Gp} {es : List Ed} {s c : Int} {i : Nat} (h : OnWay g0 es v s i) (hi : i < es.length) (e : edG v (es.getD i ez) = some (r, c)) : OnWay g0 es r (s + c) (i + 1) := by
  have hc := edG_cost h.g e
  have h0 := h.s0
  have h1 := h.s1
  refine ⟨hi, edG_GG h.g e, by omega, by omega, ?_⟩
  rw [← h.r, drop_e hi, runE, e]
  rfl
theorem OnWay.done {g0 v : Gp} {es : List Ed} {s : Int} (h : OnWay g0 es v s es.length) : runE es g0 0 0 = (v, s, ((es.length : Nat) : Int)) := by
  rw [← h.r, List.drop_length]; rfl

theorem c30 (g : Gp) (es : List Ed) (hl1 : g.m.length ≤ 1048576) (hl2 : ∀ r, r ∈ g.m → r.length ≤ 1048576) (hx1 : es.length ≤ 1048576) (hx2 : ∀ e, e ∈ es → e.s.length ≤ 1048576) : Good Try.prog 30 [eG g, eES es] (oGS (dS g es)) (rGS (dS g es)) := by
  refine good_of (E := En 58) (fn := Try.f30) (by kernel_rfl) (by kernel_rfl) rfl rfl (by simp only [List.length_cons, List.length_nil]; decide) (fun C0 => ?_)
  simp only [argT, Nat.reduceAdd, eES]
  refine ev_seq fun K1 h1 => ev_rf mB ?_
  repeat refine dr_act wN mb ma mc mT mR ?_
  refine dr_nil (h1 _ ?_); clear h1 K1
  refine ev_seq fun K1 h1 => ?_
  refine ev_seq fun K2 h2 => ev_rf mB ?_
  repeat refine dr_act wN mb ma mc mT mR ?_
  refine dr_callF wN mr mb mx mr (c83 g hl1 hl2) (Nat.le_of_ble_eq_true rfl) mv mT mN ?_
  cases hG : okG g
  · have hn : dS g es = none := by rw [dS, if_neg (by rw [hG]; exact fun h => by cases h.1)]
    rw [hn] at h1 h2 ⊢
    repeat refine dr_act wN mb ma mc mT mR ?_
    iterate 3 refine dr_skip wG mT ?_
    repeat refine dr_act wN mb ma mc mT mR ?_
    refine dr_nil (h2 _ ?_); clear h2
    refine ev_cond true mlq (fun h => ?_) (fun h => by cases h)
    refine ev_seq fun K2 h2 => ev_rf mB ?_
    repeat refine dr_act wN mb ma mc mT mR ?_
    refine dr_nil (h2 _ (ev_ret ?_)); clear h2 h1
    exact retL [] (res' := [.cell 4 34, .tmp 5, .tmp 6, .tmp 7]) mr (.cell nT mZ ma mc mP (.tmp nT mL (.tmp nT mL (.tmp nT mL .nil)))) rfl mr (by decide) trivial
  repeat refine dr_act wN mb ma mc mT mR ?_
  repeat refine dr_act wG mb ma mc mT mR ?_
  repeat refine dr_act wN mb ma mc mT mR ?_
  refine dr_nil (h2 _ ?_); clear h2
  cases hL : decide ((es.length : Int) > 20)
  rotate_left
  · have hgt := of_decide_eq_true hL
    have hn : dS g es = none := by rw [dS, if_neg (fun h => by have := h.2; omega)]
    rw [hn] at h1 ⊢
    refine ev_cond true mlq (fun h => ?_) (fun h => by cases h)
    refine ev_seq fun K2 h2 => ev_rf mB ?_
    repeat refine dr_act wN mb ma mc mT mR ?_
    refine dr_nil (h2 _ (ev_ret ?_)); clear h2 h1
    exact retL [] (res' := [.cell 4 34, .tmp 5, .tmp 6, .tmp 7]) mr (.cell nT mZ ma mc mP (.tmp nT mL (.tmp nT mL (.tmp nT mL .nil)))) rfl mr (by decide) trivial
  have hle := of_decide_eq_false hL
  have hn : dS g es = some (runE es g 0 0) := by rw [dS, if_pos ⟨hG, by omega⟩]
  rw [hn] at h1 ⊢
  refine ev_cond false mlq (fun h => by cases h) (fun h => ev_skip (h1 _ ?_)); clear h1
  have hg := okG_GG hG
  refine ev_seq fun K1 h1 => ev_rf mB ?_
  repeat refine dr_act wN mb ma mc mT mR ?_
  refine dr_callF wN mr mb mx mr (c94 g g.p g.q hl1 hl2) (Nat.le_of_ble_eq_true rfl) mv mT mN ?_
  repeat refine dr_act wN mb ma mc mT mR ?_
  refine dr_nil (h1 _ ?_); clear h1
  refine ev_seq fun K1 h1 => ?_
  refine ev_seq fun K2 h2 => ev_rf mB ?_
  repeat refine dr_act wN mb ma mc mT mR ?_
  refine dr_nil (h2 _ ?_); clear h2
  refine ev_block (ev_loop (α := {p : Gp × Int × Nat // OnWay g es p.1 p.2.1 p.2.2}) (fun p => ⟨[(1, .list 3 (es.map fE')), (4, .ptr (8, none) 0 0), (8, .ptr (152, none) 0 0), (9, vi p.1.2.1), (10, vi p.1.2.2)], [(8, ⟨34, 7, [[.val (.slice none 0 0), vi 0, vi 0, vi 0, vi 0, vi 0, vi 0]]⟩), (152, bG 144 p.1.1), (144, rM p.1.1.m)], 184⟩) (fun p => es.length - p.1.2.2) ⟨(g, 0, 0), ⟨Nat.zero_le _, hg, Int.le_refl 0, by show (0 : Int) ≤ 64 * 0; omega, rfl⟩⟩ (weak_ren [] mK (chkR_cons mK (chkR_cons mK (chkRm rfl (by decide) rfl (fun _ => rfl) (fun a => by simp [okC]) trivial))) mD mQ) (fun ⟨(v, s, i), hw⟩ => ?_))
  have hi := hw.le
  have hs0 := hw.s0
  have hs1 := hw.s1
  simp only at hi hs0 hs1 hw
  refine ev_seq fun K2 h2 => ev_seq fun K3 h3 => ev_rf mB ?_
  repeat refine dr_act wN mb ma mc mT mR ?_
  refine dr_nil (h3 _ ?_); clear h3
  refine ev_cond _ ml (fun h => ev_skip (h2 _ ?_)) (fun h => ev_exit ?_)
  · clear h1 h2
    have hlt : i < es.length := by have := of_decide_eq_true h; omega
    have hxe : (es.getD i ez).s.length ≤ 1048576 := by
      rw [List.getD_eq_getElem?_getD, List.getElem?_eq_getElem hlt]; exact hx2 _ (List.getElem_mem hlt)
    have hce := c90 v (es.getD i ez) hw.g hxe
    refine ev_seq fun K2 h2 => ev_block ?_
    rcases hed : edG v (es.getD i ez) with _ | ⟨r, c⟩
    · rw [hed] at hce
      have hst := hw.stop hlt hed
      refine ev_seq fun K3 h3 => ev_reg mB ?_
      repeat refine dr_act wN mb ma mc mT mR ?_
      refine dr_ix (ez : Ed) wN mr mb ml ml mS (by omega) mT ?_
      repeat refine dr_act wN mb ma mc mT mR ?_
      refine dr_call wN mr mb mx (.cons (fG mr) (.cons (fN rfl) .nil)) hce (Nat.le_of_ble_eq_true rfl) mv mT mN ?_
      repeat refine dr_act wN mb ma mc mT mR ?_
      refine dr_nil ⟨fun _ => by kernel_rfl, h3 _ ?_⟩; clear h3
      refine ev_seq fun K3 h3 => ?_
      refine ev_seq fun K4 h4 => ev_rf mB ?_
      repeat refine dr_act wN mb ma mc mT mR ?_
      refine dr_nil (h4 _ ?_); clear h4
      refine ev_cond true mlq (fun h => ?_) (fun h => by cases h)
      refine ev_seq fun K4 h4 => ev_rf mB ?_
      repeat refine dr_act wN mb ma mc mT mR ?_
      refine dr_nil (h4 _ (ev_ret ?_)); clear h4 h3 h2
      refine retL [144] (res' := [.cell 4 34, .tmp 5, .tmp 6, .tmp 7]) mr (.cell nT mZ ma mc mP (.tmp nT mL (.tmp nT mL (.tmp nT mL .nil)))) ?_ ?_ (by decide) ?_
      · rw [hst]; rfl
      · rw [hst]; rfl
      · rw [hst]; exact ⟨⟨mr, okRM⟩, trivial⟩
    · rw [hed] at hce
      have hst := hw.step hlt hed
      have hcc := edG_cost hw.g hed
      have w1 : IntKind.i64.wrap (s + c) = s + c := wrap_of (by omega) (by omega)
      refine ev_seq fun K3 h3 => ev_reg mB ?_
      repeat refine dr_act wN mb ma mc mT mR ?_
      refine dr_ix (ez : Ed) wN mr mb ml ml mS (by omega) mT ?_
      repeat refine dr_act wN mb ma mc mT mR ?_
      refine dr_call wN mr mb mx (.cons (fG mr) (.cons (fN rfl) .nil)) hce (Nat.le_of_ble_eq_true rfl) mv mT mN ?_
      repeat refine dr_act wN mb ma mc mT mR ?_
      refine dr_nil ⟨fun _ => by kernel_rfl, h3 _ ?_⟩; clear h3
      refine ev_seq fun K3 h3 => ?_
      refine ev_seq fun K4 h4 => ev_rf mB ?_
      repeat refine dr_act wN mb ma mc mT mR ?_
      refine dr_nil (h4 _ ?_); clear h4
      refine ev_cond false mlq (fun h => by cases h) (fun h => ev_skip (h3 _ ?_)); clear h3
      refine ev_seq fun K3 h3 => ev_rf mB ?_
      repeat refine dr_act wN mb ma mc mT mR ?_
      refine dr_nil (h3 _ ?_); clear h3
      refine ev_rf mB ?_
      repeat refine dr_act wN mb ma mc mT mR ?_
      rw [w1]
      refine dr_nil (h2 _ ?_); clear h2
      refine ev_rf mB ?_
      repeat refine dr_act wN mb ma mc mT mR ?_
      refine dr_nil ⟨⟨(r, s + c, i + 1), hst⟩, by simp only []; omega, ?_⟩
      rw [w64p (n := es.length) hlt (by omega)]
      exact weak_ren [(144, 256)] mK (chkR_cons mK (chkR_cons mK (chkRm rfl (by decide) rfl (fun _ => rfl) (fun a => by simp [okC]) trivial))) mD mQ
  · simp only [seqK, loopK, blkK, ↓reduceIte]
    refine h1 _ ?_; clear h1 h2
    have hge := of_decide_eq_false h
    obtain rfl : i = es.length := by omega
    have hst := hw.done
    refine ev_seq fun K1 h1 => ev_rf mB ?_
    repeat refine dr_act wN mb ma mc mT mR ?_
    refine dr_nil (h1 _ (ev_ret ?_)); clear h1
    refine retL [144] (res' := [.cell 4 34, .tmp 5, .tmp 6, .tmp 7]) mr (.cell nT mZ ma mc mP (.tmp nT mL (.tmp nT mL (.tmp nT mL .nil)))) ?_ ?_ (by decide) ?_
    · rw [hst]; rfl
    · rw [hst]; rfl
    · rw [hst]; exact ⟨⟨mr, okRM⟩, trivial⟩
end Go.Ev
namespace Go.Ev
open Go Go.RowKit Go.Proofs

theorem c32 (g : Gp) (es : List Ed) (hl1 : g.m.length ≤ 1048576) (hl2 : ∀ r, r ∈ g.m → r.length ≤ 1048576) (hx1 : es.length ≤ 1048576) (hx2 : ∀ e, e ∈ es → e.s.length ≤ 1048576) : Good Try.prog 32 [eG g, eES es] (oGS (dS g es)) (rGS (dS g es)) := by
  refine good_of (E := En 54) (fn := Try.f32) (by kernel_rfl) (by kernel_rfl) rfl rfl (by simp only [List.length_cons, List.length_nil]; decide) (fun C0 => ?_)
  simp only [argT, Nat.reduceAdd, eES]
  refine ev_seq fun K1 h1 => ev_rf mB ?_
  repeat refine dr_act wN mb ma mc mT mR ?_
  refine dr_nil (h1 _ ?_); clear h1 K1
  refine ev_seq fun K1 h1 => ?_
  refine ev_seq fun K2 h2 => ev_rf mB ?_
  repeat refine dr_act wN mb ma mc mT mR ?_
  refine dr_callF wN mr mb mx mr (c86 g hl1 hl2) (Nat.le_of_ble_eq_true rfl) mv mT mN ?_
  cases hG : okG g
  · have hn : dS g es = none := by rw [dS, if_neg (by rw [hG]; exact fun h => by cases h.1)]
    rw [hn] at h1 h2 ⊢
    repeat refine dr_act wN mb ma mc mT mR ?_
    iterate 3 refine dr_skip wG mT ?_
    repeat refine dr_act wN mb ma mc mT mR ?_
    refine dr_nil (h2 _ ?_); clear h2
    refine ev_cond true mlq (fun h => ?_) (fun h => by cases h)
    refine ev_seq fun K2 h2 => ev_rf mB ?_
    repeat refine dr_act wN mb ma mc mT mR ?_
    refine dr_nil (h2 _ (ev_ret ?_)); clear h2 h1
    exact retL [] (res' := [.cell 4 34, .tmp 5, .tmp 6, .tmp 7]) mr (.cell nT mZ ma mc mP (.tmp nT mL (.tmp nT mL (.tmp nT mL .nil)))) rfl mr (by decide) trivial
  repeat refine dr_act wN mb ma mc mT mR ?_
  repeat refine dr_act wG mb ma mc mT mR ?_
  repeat refine dr_act wN mb ma mc mT mR ?_
  refine dr_nil (h2 _ ?_); clear h2
  cases hL : decide ((es.length : Int) > 20)
  rotate_left
  · have hgt := of_decide_eq_true hL
    have hn : dS g es = none := by rw [dS, if_neg (fun h => by have := h.2; omega)]
    rw [hn] at h1 ⊢
    refine ev_cond true mlq (fun h => ?_) (fun h => by cases h)
    refine ev_seq fun K2 h2 => ev_rf mB ?_
    repeat refine dr_act wN mb ma mc mT mR ?_
    refine dr_nil (h2 _ (ev_ret ?_)); clear h2 h1
    exact retL [] (res' := [.cell 4 34, .tmp 5, .tmp 6, .tmp 7]) mr (.cell nT mZ ma mc mP (.tmp nT mL (.tmp nT mL (.tmp nT mL .nil)))) rfl mr (by decide) trivial
  have hle := of_decide_eq_false hL
  have hn : dS g es = some (runE es g 0 0) := by rw [dS, if_pos ⟨hG, by omega⟩]
  rw [hn] at h1 ⊢
  refine ev_cond false mlq (fun h => by cases h) (fun h => ev_skip (h1 _ ?_)); clear h1
  have hg := okG_GG hG
  refine ev_seq fun K1 h1 => ev_rf mB ?_
  repeat refine dr_act wN mb ma mc mT mR ?_
  refine dr_callF wN mr mb mx mr (c87 g hl1 hl2) (Nat.le_of_ble_eq_true rfl) mv mT mN ?_
  repeat refine dr_act wN mb ma mc mT mR ?_
  refine dr_nil (h1 _ ?_); clear h1
  refine ev_seq fun K1 h1 => ?_
  refine ev_seq fun K2 h2 => ev_rf mB ?_
  repeat refine dr_act wN mb ma mc mT mR ?_
  refine dr_nil (h2 _ ?_); clear h2
  refine ev_block (ev_loop (α := {p : Gp × Int × Nat // OnWay g es p.1 p.2.1 p.2.2}) (fun p => ⟨[(1, .list 3 (es.map fE')), (4, .ptr (8, none) 0 0), (8, .ptr (120, none) 0 0), (9, vi p.1.2.1), (26, .list 3 (es.map fE')), (27, vi es.length), (28, vi p.1.2.2)], [(8, ⟨34, 7, [[.val (.slice none 0 0), vi 0, vi 0, vi 0, vi 0, vi 0, vi 0]]⟩), (120, bG 112 p.1.1), (112, rM p.1.1.m)], 168⟩) (fun p => es.length - p.1.2.2) ⟨(g, 0, 0), ⟨Nat.zero_le _, hg, Int.le_refl 0, by show (0 : Int) ≤ 64 * 0; omega, rfl⟩⟩ (weak_ren [] mK (chkR_cons mK (chkR_cons mK (chkRm rfl (by decide) rfl (fun _ => rfl) (fun a => by simp [okC]) trivial))) mD mQ) (fun ⟨(v, s, i), hw⟩ => ?_))
  have hi := hw.le
  have hs0 := hw.s0
  have hs1 := hw.s1
  simp only at hi hs0 hs1 hw
  refine ev_seq fun K2 h2 => ev_rf mB ?_
  repeat refine dr_act wN mb ma mc mT mR ?_
  refine dr_nil (h2 _ ?_); clear h2
  refine ev_seq fun K2 h2 => ?_
  refine ev_cond _ ml (fun h => ev_skip (h2 _ ?_)) (fun h => ev_exit ?_)
  · clear h1 h2
    have hlt : i < es.length := by have := of_decide_eq_true h; omega
    have hxe : (es.getD i ez).s.length ≤ 1048576 := by
      rw [List.getD_eq_getElem?_getD, List.getElem?_eq_getElem hlt]; exact hx2 _ (List.getElem_mem hlt)
    have hce := c26 v (es.getD i ez) hw.g.w.g.l4 hw.g.w.g.r4 hxe
    rw [dE, if_pos (GG_okG hw.g)] at hce
    refine ev_seq fun K2 h2 => ev_block ?_
    rcases hed : edG v (es.getD i ez) with _ | ⟨r, c⟩
    · rw [hed] at hce
      have hst := hw.stop hlt hed
      refine ev_seq fun K3 h3 => ev_rf mB ?_
      repeat refine dr_act wN mb ma mc mT mR ?_
      refine dr_ix (ez : Ed) wN mr mb ml ml mS (by omega) mT ?_
      repeat refine dr_act wN mb ma mc mT mR ?_
      refine dr_nil (h3 _ ?_); clear h3
      refine ev_seq fun K3 h3 => ev_rf mB ?_
      repeat refine dr_act wN mb ma mc mT mR ?_
      refine dr_call wN mr mb mx (.cons (fG mr) (.cons (fN rfl) .nil)) hce (Nat.le_of_ble_eq_true rfl) mv mT mN ?_
      repeat refine dr_act wN mb ma mc mT mR ?_
      refine dr_nil (h3 _ ?_); clear h3
      refine ev_seq fun K3 h3 => ?_
      refine ev_seq fun K4 h4 => ev_rf mB ?_
      repeat refine dr_act wN mb ma mc mT mR ?_
      refine dr_nil (h4 _ ?_); clear h4
      refine ev_cond true mlq (fun h => ?_) (fun h => by cases h)
      refine ev_seq fun K4 h4 => ev_rf mB ?_
      repeat refine dr_act wN mb ma mc mT mR ?_
      refine dr_nil (h4 _ (ev_ret ?_)); clear h4 h3 h2
      refine retL [112] (res' := [.cell 4 34, .tmp 5, .tmp 6, .tmp 7]) mr (.cell nT mZ ma mc mP (.tmp nT mL (.tmp nT mL (.tmp nT mL .nil)))) ?_ ?_ (by decide) ?_
      · rw [hst]; rfl
      · rw [hst]; rfl
      · rw [hst]; exact ⟨⟨mr, okRM⟩, trivial⟩
    · rw [hed] at hce
      have hst := hw.step hlt hed
      have hcc := edG_cost hw.g hed
      have w1 : IntKind.i64.wrap (s + c) = s + c := wrap_of (by omega) (by omega)
      refine ev_seq fun K3 h3 => ev_rf mB ?_
      repeat refine dr_act wN mb ma mc mT mR ?_
      refine dr_ix (ez : Ed) wN mr mb ml ml mS (by omega) mT ?_
      repeat refine dr_act wN mb ma mc mT mR ?_
      refine dr_nil (h3 _ ?_); clear h3
      refine ev_seq fun K3 h3 => ev_rf mB ?_
      repeat refine dr_act wN mb ma mc mT mR ?_
      refine dr_call wN mr mb mx (.cons (fG mr) (.cons (fN rfl) .nil)) hce (Nat.le_of_ble_eq_true rfl) mv mT mN ?_
      repeat refine dr_act wN mb ma mc mT mR ?_
      refine dr_nil (h3 _ ?_); clear h3
      refine ev_seq fun K3 h3 => ?_
      refine ev_seq fun K4 h4 => ev_rf mB ?_
      repeat refine dr_act wN mb ma mc mT mR ?_
      refine dr_nil (h4 _ ?_); clear h4
      refine ev_cond false mlq (fun h => by cases h) (fun h => ev_skip (h3 _ ?_)); clear h3
      refine ev_rf mB ?_
      repeat refine dr_act wN mb ma mc mT mR ?_
      rw [w1]
      refine dr_nil (h2 _ ?_); clear h2
      refine ev_rf mB ?_
      repeat refine dr_act wN mb ma mc mT mR ?_
      refine dr_nil ⟨⟨(r, s + c, i + 1), hst⟩, by simp only []; omega, ?_⟩
      rw [w64p (n := es.length) hlt (by omega)]
      exact weak_ren [(112, 240)] mK (chkR_cons mK (chkR_cons mK (chkRm rfl (by decide) rfl (fun _ => rfl) (fun a => by simp [okC]) trivial))) mD mQ
  · simp only [seqK, loopK, blkK, ↓reduceIte]
    refine h1 _ ?_; clear h1 h2
    have hge := of_decide_eq_false h
    obtain rfl : i = es.length := by omega
    have hst := hw.done
    refine ev_seq fun K1 h1 => ev_rf mB ?_
    repeat refine dr_act wN mb ma mc mT mR ?_
    refine dr_nil (h1 _ (ev_ret ?_)); clear h1
    refine retL [112] (res' := [.cell 4 34, .tmp 5, .tmp 6, .tmp 7]) mr (.cell nT mZ ma mc mP (.tmp nT mL (.tmp nT mL (.tmp nT mL .nil)))) ?_ ?_ (by decide) ?_
    · rw [hst]; rfl
    · rw [hst]; rfl
    · rw [hst]; exact ⟨⟨mr, okRM⟩, trivial⟩
end Go.Ev
namespace Go.Ev
open Go Go.RowKit Go.Proofs

theorem good_nilT {P : Program} {f : FuncId} {args us : List V} (h : Good P f args (.tup (zG :: us)) []) : Good P f args (.tup (oG 0 gz :: us)) [rM []] := by
  refine good_nilX h fun C u he hu => ?_
  obtain ⟨vs, rfl, h1, h2⟩ := hu.tup_inv
  refine .tup h1 (fun i u c h3 h4 => ?_)
  cases i with
  | succ i => exact (h2 (i + 1) u c h3 (by simpa using h4)).ext he
  | zero =>
    simp only [List.getElem?_cons_zero, Option.some.injEq] at h4
    subst h4
    obtain ⟨us, rfl, k1, k2⟩ := (h2 0 u zG h3 rfl).agg_inv
    refine .agg k1 (fun j u' c' m1 m2 => ?_)
    cases j with
    | succ j => exact (k2 (j + 1) u' c' m1 (by simpa using m2)).ext he
    | zero =>
      simp only [List.getElem?_cons_zero, Option.some.injEq] at m2
      subst m2
      exact empty_ref (k2 0 u' _ m1 rfl)

def dSR (g : Gp) (es : List Ed) : Gp × Int × Int × Bool :=
  match dS g es with
  | some (r, s, i) => (r, s, i, true)
  | none => (gz, 0, 0, false)

theorem uniS {P : Program} {f : FuncId} {args : List V} {g : Gp} {es : List Ed} (h : Good P f args (oGS (dS g es)) (rGS (dS g es))) : Good P f args (.tup [oG 0 (dSR g es).1, vi (dSR g es).2.1, vi (dSR g es).2.2.1, vb (dSR g es).2.2.2]) [rM (dSR g es).1.m] := by
  unfold dSR
  cases hd : dS g es with
  | none => rw [hd] at h; exact good_nilT h
  | some rc =>
    obtain ⟨r, s, i⟩ := rc
    rw [hd] at h; exact h

theorem runE_GG : ∀ (es : List Ed) (g : Gp) (s i : Int), GG g → GG (runE es g s i).1
  | [], g, s, i, h => h
  | e :: es, g, s, i, h => by
    unfold runE
    cases hd : edG g e with
    | none => exact h
    | some rc =>
      obtain ⟨r, c⟩ := rc
      exact runE_GG es r _ _ (edG_GG h hd)

theorem dSR_GM (g : Gp) (es : List Ed) : GM (dSR g es).1.m := by
  unfold dSR
  cases hd : dS g es with
  | none => exact ⟨Nat.zero_le _, fun r hr => by simp at hr, fun r hr => by simp at hr⟩
  | some rc =>
    unfold dS at hd
    split at hd
    · rename_i hc
      simp only [Option.some.injEq] at hd
      subst hd
      exact (runE_GG es g 0 0 (okG_GG hc.1)).w.g
    · cases hd

theorem szEF_bound : ∀ (es : List Ed) (k : Int), 0 ≤ k → 0 ≤ szEF es k → (totE es : Int) ≤ k + 2 * es.length
  | [], k, h, _ => by simp only [totE, List.length_nil]; omega
  | e :: es, k, h, hs => by
    simp only [szEF] at hs
    split at hs
    · omega
    · rename_i hp
      have h1 : 0 ≤ sz1 e.s k := by omega
      have h2 := szEF_bound es _ h1 hs
      have h3 : sz1 e.s k = k - e.s.length := by
        unfold sz1 at h1 ⊢
        split
        · rename_i hc; rw [if_pos hc] at h1; omega
        · rfl
      simp only [totE, List.length_cons]
      omega

theorem mem_totE : ∀ (es : List Ed) e, e ∈ es → e.s.length + 2 * es.length ≤ totE es + 2 * es.length
  | x :: m, e, h => by
    simp only [totE, List.length_cons]
    rcases List.mem_cons.1 h with rfl | h
    · omega
    · have := mem_totE m e h; omega

theorem szEF_le : ∀ (es : List Ed) (k : Int), 0 ≤ k → szEF es k = -1 ∨ (0 ≤ szEF es k ∧ szEF es k ≤ k)
  | [], k, h => .inr ⟨h, Int.le_refl k⟩
  | e :: es, k, h => by
    simp only [szEF]
    split
    · exact .inl rfl
    · have h1 : 0 ≤ sz1 e.s k := by omega
      have h2 := sz1_le h1
      rcases szEF_le es _ h1 with h3 | h3
      · exact .inl h3
      · exact .inr ⟨h3.1, by omega⟩

theorem szES_bound {es : List Ed} {k : Int} (hk : k ≤ 1048576) (h : 0 ≤ szES es k) : es.length ≤ 1048576 ∧ (∀ e, e ∈ es → e.s.length ≤ 4000000) ∧ totE es ≤ 2097152 := by
  unfold szES at h
  split at h
  · omega
  · rename_i hc
    have h1 := szEF_bound es _ (by omega) h
    refine ⟨by omega, fun r hr => ?_, by omega⟩
    have := mem_totE es r hr
    omega

theorem szES_row : ∀ (es : List Ed) (k : Int), 0 ≤ k → 0 ≤ szEF es k → ∀ e, e ∈ es → (e.s.length : Int) ≤ k
  | x :: es, k, h, hs, e, he => by
    simp only [szEF] at hs
    split at hs
    · omega
    · rename_i hp
      have h1 : 0 ≤ sz1 x.s k := by omega
      have h3 : sz1 x.s k = k - x.s.length := by
        unfold sz1 at h1 ⊢
        split
        · rename_i hc; rw [if_pos hc] at h1; omega
        · rfl
      rcases List.mem_cons.1 he with rfl | he
      · omega
      · have := szES_row es _ h1 hs e he; omega

theorem fES {R : Rs} {n : Nat} {es : List Ed} {k : Nat} (h : R n = some (rES es)) (hk : k = es.length) : FrzC R (.ref (n, none) 0 k) (eES es) := by
  refine .ref (xs := es.map rE) (zs := es.map rE) (by rw [act_of h]) (cut_all (by rw [hk]; exact List.length_map ..)) ?_
  exact frzE_map (fun r => .cons (.same rfl) (.cons (.same rfl) (.cons (.row okB) .nil))) es

theorem handES {R : Rs} {n : Nat} {es : List Ed} (h : R n = some (rES es)) : HandL R [n] 1 [n] [rES es] :=
  ⟨⟨_, h, rfl, rfl, rnMap (fun _ => rfl) es, okES⟩, trivial⟩
theorem wrES {R : List (Nat × Root)} {n b : Nat} {es : List Ed} : applyW R (wrR [n] [] b [some (rES es)]) = (n, rES es) :: dropR R n := by
  have e : ∀ ρ, rnR ρ (rES es) = rES es := fun ρ => by
    show Root.mk 49 3 ((es.map rE).map (·.map (rnC ρ))) = _
    rw [← rnMap (fun _ => rfl)]
  simp only [wrR, newR, upN, List.map_nil, List.nil_append, Option.map_some, e]
  rfl

theorem c5 (g : Gp) (es : List Ed) (hl : Len g.m) (hx1 : es.length ≤ maxLen) (hx2 : ∀ e, e ∈ es → e.s.length ≤ maxLen) : Good Try.prog 5 [eG g, eES es] (vb true) [] := by
  refine good_of (E := En 161) (fn := Try.f5) (by kernel_rfl) (by kernel_rfl) rfl rfl (by simp only [List.length_cons, List.length_nil]; decide) (fun C0 => ?_)
  simp only [argT, Nat.reduceAdd]
  refine ev_seq fun K1 h1 => ev_rf mB ?_
  repeat refine dr_act wN mb ma mc mT mR ?_
  refine dr_nil (h1 _ ?_); clear h1
  refine ev_seq fun K1 h1 => ev_rf mB ?_
  repeat refine dr_act wN mb ma mc mT mR ?_
  refine dr_nil (h1 _ ?_); clear h1
  refine ev_seq fun K1 h1 => ev_rf mB ?_
  repeat refine dr_act wN mb ma mc mT mR ?_
  refine dr_callF wN mr mb mx mr (c13 g 1048576 hl ⟨by decide, by decide⟩) (Nat.le_of_ble_eq_true rfl) mv mT mN ?_
  repeat refine dr_act wN mb ma mc mT mR ?_
  refine dr_nil (h1 _ ?_); clear h1
  refine ev_seq fun K1 h1 => ?_
  refine ev_seq fun K2 h2 => ev_rf mB ?_
  repeat refine dr_act wN mb ma mc mT mR ?_
  refine dr_nil (h2 _ ?_); clear h2
  refine ev_cond _ ml (fun h => ?_) (fun h => ev_skip (h1 _ ?_)) <;> clear h1
  · skip
    refine ev_seq fun K2 h2 => ev_rf mB ?_
    repeat refine dr_act wN mb ma mc mT mR ?_
    refine dr_nil (h2 _ (ev_ret ?_)); clear h2
    exact retT [4] (hv := rfl)
  have hk0 := of_decide_eq_false h
  obtain ⟨hm1, hm2, hm3⟩ := szM_bound (m := g.m) (by omega)
  have hk1 : 0 ≤ szM g.m 1048576 ∧ szM g.m 1048576 ≤ 1048576 := by
    rcases szM_le g.m 1048576 (by decide) with h | h <;> omega
  generalize szM g.m 1048576 = k1 at *
  clear h
  refine ev_seq fun K1 h1 => ev_rf mB ?_
  repeat refine dr_act wN mb ma mc mT mR ?_
  refine dr_callF wN mr mb mx mr (c29 es k1 hx1 hx2 hk1) (Nat.le_of_ble_eq_true rfl) mv mT mN ?_
  repeat refine dr_act wN mb ma mc mT mR ?_
  refine dr_nil (h1 _ ?_); clear h1
  refine ev_seq fun K1 h1 => ?_
  refine ev_seq fun K2 h2 => ev_rf mB ?_
  repeat refine dr_act wN mb ma mc mT mR ?_
  refine dr_nil (h2 _ ?_); clear h2
  refine ev_cond _ ml (fun h => ?_) (fun h => ev_skip (h1 _ ?_)) <;> clear h1
  · skip
    refine ev_seq fun K2 h2 => ev_rf mB ?_
    repeat refine dr_act wN mb ma mc mT mR ?_
    refine dr_nil (h2 _ (ev_ret ?_)); clear h2
    exact retT [4] (hv := rfl)
  have hs := of_decide_eq_false h
  obtain ⟨he1, _, he3⟩ := szES_bound (es := es) (k := k1) hk1.2 (by omega)
  have he2 : ∀ e, e ∈ es → e.s.length ≤ 1048576 := by
    have h0 : 0 ≤ szES es k1 := by omega
    unfold szES at h0
    split at h0
    · omega
    · rename_i hc
      intro e he
      have := szES_row es _ (by omega) h0 e he
      omega
  clear h hs
  have hu30 := uniS (c30 g es hm1 hm2 he1 he2)
  have hu32 := uniS (c32 g es hm1 hm2 he1 he2)
  have hgm := dSR_GM g es
  obtain ⟨⟨r, c, j, ok⟩, hdr⟩ : ∃ x, dSR g es = x := ⟨_, rfl⟩
  rw [hdr] at hu30 hu32 hgm
  dsimp only at hu30 hu32 hgm
  clear hdr
  have hrt := hgm.tot
  have h33 : Good Try.prog 33 [eES es, eES es] (vb true) [] := by
    have h := c33 es es ⟨hx1, hx2⟩
    rw [decide_eq_true rfl] at h
    exact h
  have hrl := hgm.l
  have hlr : Len r.m := ⟨by simp only [maxLen]; omega, fun x hx => by have := hgm.r x hx; simp only [maxLen]; omega⟩
  have hcc : (c != c) = false := by simp
  have hjj : (j != j) = false := by simp
  have hoo : (!(ok == ok)) = false := by cases ok <;> rfl
  refine ev_weak (σ' := ⟨[(1, eES es), (2, .ptr (0, none) 0 0)], [(0, ⟨28, 7, [cG (eM g.m) g]⟩)], 200⟩) (weak_ren [] mK mK mD mQ) ?_
  refine ev_seq fun K1 h1 => ev_rf mB ?_
  repeat refine dr_act wN mb ma mc mT mR ?_
  refine dr_callF wN mr mb mx mr (c15 g hm1 hm2) (Nat.le_of_ble_eq_true rfl) mv mT mN ?_
  repeat refine dr_act wN mb ma mc mT mR ?_
  refine dr_callF wN mr mb mx mr (c31 es he1 he2) (Nat.le_of_ble_eq_true rfl) mv mT mN ?_
  refine dr_call wN mr mb mx (.cons (fG mr) (.cons (.cell (fES mr rfl)) .nil)) (hu30) (Nat.le_of_ble_eq_true rfl) mv mT mN ?_
  repeat refine dr_act wN mb ma mc mT mR ?_
  refine dr_nil (h1 _ ?_); clear h1
  refine ev_seq fun K1 h1 => ev_rf mB ?_
  repeat refine dr_act wN mb ma mc mT mR ?_
  refine dr_callF wN mr mb mx mr (c15 g hm1 hm2) (Nat.le_of_ble_eq_true rfl) mv mT mN ?_
  repeat refine dr_act wN mb ma mc mT mR ?_
  refine dr_nil (h1 _ ?_); clear h1
  refine ev_seq fun K1 h1 => ev_rf mB ?_
  repeat refine dr_act wN mb ma mc mT mR ?_
  refine dr_callF wN mr mb mx mr (c31 es he1 he2) (Nat.le_of_ble_eq_true rfl) mv mT mN ?_
  repeat refine dr_act wN mb ma mc mT mR ?_
  refine dr_nil (h1 _ ?_); clear h1
  refine ev_seq fun K1 h1 => ev_rf mB ?_
  repeat refine dr_act wN mb ma mc mT mR ?_
  refine dr_call wN mr mb mx (.cons (fG mr) (.cons (.cell (fES mr rfl)) .nil)) (hu32) (Nat.le_of_ble_eq_true rfl) mv mT mN ?_
  repeat refine dr_act wN mb ma mc mT mR ?_
  refine dr_nil (h1 _ ?_); clear h1
  refine ev_weak (σ' := ⟨[(1, eES es), (2, .ptr (0, none) 0 0), (6, .ptr (280, none) 0 0), (7, vi c), (8, vi j), (9, vb ok), (10, .ptr (336, none) 0 0), (11, .ref (360, none) 0 es.length), (12, .ptr (440, none) 0 0), (13, vi c), (14, vi j), (15, vb ok)], [(0, ⟨28, 7, [cG (eM g.m) g]⟩), (280, bG 232 r), (336, bG 328 g), (440, bG 392 r), (232, rM r.m), (328, rM g.m), (360, rES es), (392, rM r.m)], 480⟩) (weak_ren [] mK (chkR_cons mK (chkR_cons mK (chkR_cons mK (chkR_cons mK (chkRm rfl (by decide) rfl (fun _ => rfl) (fun a => by simp [okC]) (chkRm rfl (by decide) rfl (fun _ => rfl) (fun a => by simp [okC]) (chkRm rfl (by decide) rfl (fun _ => rfl) (fun a => by simp [okC]) (chkRm rfl (by decide) rfl (fun _ => rfl) (fun a => by simp [okC]) trivial)))))))) mD mQ) ?_
  refine ev_seq fun K1 h1 => ?_
  refine ev_seq fun K2 h2 => ev_rf mB ?_
  repeat refine dr_act wN mb ma mc mT mR ?_
  refine dr_call wN mr mb mx (.cons (fG mr) (.cons (fG mr) .nil)) (c18 r r hlr) (Nat.le_of_ble_eq_true rfl) mv mT mN ?_
  rw [qG_self]
  repeat refine dr_act wN mb ma mc mT mR ?_
  iterate 3 refine dr_act wG mb ma mc mT mR ?_
  rw [hcc]
  refine dr_act wN mb ma mc mT mR ?_
  refine dr_act wN mb ma mc mT mR ?_
  iterate 3 refine dr_act wG mb ma mc mT mR ?_
  rw [hjj]
  refine dr_act wN mb ma mc mT mR ?_
  refine dr_act wN mb ma mc mT mR ?_
  iterate 3 refine dr_act wG mb ma mc mT mR ?_
  rw [hoo]
  repeat refine dr_act wN mb ma mc mT mR ?_
  refine dr_nil (h2 _ ?_); clear h2
  refine ev_cond false mlq (fun h => by cases h) (fun h => ev_skip (h1 _ ?_)); clear h1
  refine ev_seq fun K1 h1 => ?_
  refine ev_seq fun K2 h2 => ev_reg mB ?_
  repeat refine dr_act wN mb ma mc mT mR ?_
  refine dr_callF wN mr mb mx mr (c15 g hm1 hm2) (Nat.le_of_ble_eq_true rfl) mv mT mN ?_
  refine dr_call wN mr mb mx (.cons (fG mr) (.cons (fG mr) .nil)) (c18 g g hl) (Nat.le_of_ble_eq_true rfl) mv mT mN ?_
  rw [qG_self]
  repeat refine dr_act wN mb ma mc mT mR ?_
  refine dr_nil ⟨fun _ => by kernel_rfl, h2 _ ?_⟩; clear h2
  refine ev_cond false mlq (fun h => by cases h) (fun h => ev_skip (h1 _ ?_)); clear h1
  refine ev_seq fun K1 h1 => ?_
  refine ev_seq fun K2 h2 => ev_rf mB ?_
  repeat refine dr_act wN mb ma mc mT mR ?_
  refine dr_callF wN mr mb mx mr (c31 es he1 he2) (Nat.le_of_ble_eq_true rfl) mv mT mN ?_
  refine dr_call wN mr mb mx (.cons (.cell (fES mr rfl)) (.cons (.cell (fES mr rfl)) .nil)) (h33) (Nat.le_of_ble_eq_true rfl) mv mT mN ?_
  repeat refine dr_act wN mb ma mc mT mR ?_
  refine dr_nil (h2 _ ?_); clear h2
  refine ev_cond false mlq (fun h => by cases h) (fun h => ev_skip (h1 _ ?_)); clear h1
  refine ev_seq fun K1 h1 => ev_rf mB ?_
  repeat refine dr_act wN mb ma mc mT mR ?_
  refine dr_nil (h1 _ ?_); clear h1
  refine ev_seq fun K1 h1 => ev_rf mB ?_
  repeat refine dr_act wN mb ma mc mT mR ?_
  refine dr_callR [328] [] wN mr mb mx (c20 g 1 hm1 (by decide) (by omega)) (.ren rfl rfl (.ren rfl rfl .nil)) (hand1 mr) ⟨⟨by decide, nz⟩, Nat.le_of_ble_eq_true rfl⟩ (v := vi (1 + tot g.m)) rfl mT (wr1.trans mRd) ?_
  repeat refine dr_act wN mb ma mc mT mR ?_
  refine dr_nil (h1 _ ?_); clear h1
  refine ev_seq fun K1 h1 => ev_rf mB ?_
  repeat refine dr_act wN mb ma mc mT mR ?_
  refine dr_callR [360] [] wN mr mb mx (c34 es (1 + tot g.m) he1 (by omega) (by omega)) (.ren rfl rfl (.ren rfl rfl .nil)) (handES mr) ⟨⟨by decide, nz⟩, Nat.le_of_ble_eq_true rfl⟩ (v := vi (1 + tot g.m + totE es)) rfl mT (wrES.trans mRd) ?_
  repeat refine dr_act wN mb ma mc mT mR ?_
  refine dr_nil (h1 _ ?_); clear h1
  have hkk : decide ((1 + (tot g.m : Nat) + (totE es : Nat) : Int) < 0) = false := decide_eq_false (by omega)
  refine ev_weak (σ' := ⟨[(1, eES es), (2, .ptr (0, none) 0 0), (6, .ptr (280, none) 0 0), (7, vi c), (8, vi j), (9, vb ok), (12, .ptr (440, none) 0 0), (13, vi c), (14, vi j), (15, vb ok), (16, vi (1 + tot g.m + totE es))], [(0, ⟨28, 7, [cG (eM g.m) g]⟩), (280, bG 232 r), (440, bG 392 r), (232, rM r.m), (392, rM r.m)], 1000⟩) (weak_ren [] mK (chkR_cons mK (chkR_cons mK (chkR_cons mK (chkRm rfl (by decide) rfl (fun _ => rfl) (fun a => by simp [okC]) (chkRm rfl (by decide) rfl (fun _ => rfl) (fun a => by simp [okC]) trivial))))) mD mQ) ?_
  refine ev_seq fun K1 h1 => ?_
  refine ev_seq fun K2 h2 => ev_rf mB ?_
  iterate 3 refine dr_act wN mb ma mc mT mR ?_
  rw [hkk]
  iterate 2 refine dr_act wG mb ma mc mT mR ?_
  refine dr_call wG mr mb mx (.cons (fG mr) (.cons (fG mr) .nil)) (c18 r r hlr) (Nat.le_of_ble_eq_true rfl) mv mT mN ?_
  rw [qG_self]
  refine dr_act wG mb ma mc mT mR ?_
  repeat refine dr_act wN mb ma mc mT mR ?_
  iterate 3 refine dr_act wG mb ma mc mT mR ?_
  rw [hcc]
  refine dr_act wN mb ma mc mT mR ?_
  refine dr_act wN mb ma mc mT mR ?_
  iterate 3 refine dr_act wG mb ma mc mT mR ?_
  rw [hjj]
  refine dr_act wN mb ma mc mT mR ?_
  refine dr_act wN mb ma mc mT mR ?_
  iterate 3 refine dr_act wG mb ma mc mT mR ?_
  rw [hoo]
  repeat refine dr_act wN mb ma mc mT mR ?_
  refine dr_nil (h2 _ ?_); clear h2
  refine ev_cond false mlq (fun h => by cases h) (fun h => ev_skip (h1 _ ?_)); clear h1
  have hhd : Good Try.prog 22 [eG ⟨mkM 1 r.m, r.w, r.p, r.q⟩, vi 1] (vi (1 + tot r.m)) [] := by
    have h := c22 ⟨mkM 1 r.m, r.w, r.p, r.q⟩ 1 (by decide) (by simp only [mkM_tot]; omega) (by simp only [mkM_length]; omega)
    have e : hdM (mkM 1 r.m) 1 = 1 + tot r.m := by rw [hdM, mkM_mkM, if_pos rfl, mkM_tot]
    rw [e] at h
    exact h
  refine ev_seq fun K1 h1 => ev_rf mB ?_
  repeat refine dr_act wN mb ma mc mT mR ?_
  refine dr_nil (h1 _ ?_); clear h1
  refine ev_seq fun K1 h1 => ev_rf mB ?_
  repeat refine dr_act wN mb ma mc mT mR ?_
  refine dr_callR [392] [] wN mr mb mx (c20 r 1 (by omega) (by decide) (by omega)) (.ren rfl rfl (.ren rfl rfl .nil)) (hand1 mr) ⟨⟨by decide, nz⟩, Nat.le_of_ble_eq_true rfl⟩ (v := vi (1 + tot r.m)) rfl mT (wr1.trans mRd) ?_
  repeat refine dr_act wN mb ma mc mT mR ?_
  refine dr_nil (h1 _ ?_); clear h1
  refine ev_seq fun K1 h1 => ev_rf mB ?_
  repeat refine dr_act wN mb ma mc mT mR ?_
  refine dr_nil (h1 _ ?_); clear h1
  refine ev_seq fun K1 h1 => ev_rf mB ?_
  repeat refine dr_act wN mb ma mc mT mR ?_
  refine dr_call wN mr mb mx (.cons (.agg (.cons (fM mr (mkM_length 1 r.m).symm) (.cons (fn rfl) (.cons (fn rfl) (.cons (fn rfl) (.cons (fn rfl) (.cons (fn rfl) (.cons (fn rfl) .nil)))))))) (.cons (fN rfl) .nil)) hhd (Nat.le_of_ble_eq_true rfl) mv mT mN ?_
  repeat refine dr_act wN mb ma mc mT mR ?_
  refine dr_nil (h1 _ ?_); clear h1
  refine ev_seq fun K1 h1 => ?_
  refine ev_seq fun K2 h2 => ev_rf mB ?_
  repeat refine dr_act wN mb ma mc mT mR ?_
  refine dr_nil (h2 _ ?_); clear h2
  refine ev_cond _ ml (fun h => absurd (of_decide_eq_true h) (by omega)) (fun h => ev_skip (h1 _ ?_)); clear h1 h
  refine ev_seq fun K1 h1 => ?_
  refine ev_seq fun K2 h2 => ev_rf mB ?_
  repeat refine dr_act wN mb ma mc mT mR ?_
  refine dr_nil (h2 _ ?_); clear h2
  refine ev_cond _ ml (fun h => by simp at h) (fun h => ev_skip (h1 _ ?_)); clear h1 h
  refine ev_weak (σ' := ⟨[(1, eES es), (2, .ptr (0, none) 0 0), (6, .ptr (280, none) 0 0), (7, vi c), (8, vi j), (9, vb ok), (12, .ptr (440, none) 0 0), (17, vi (1 + tot r.m))], [(0, ⟨28, 7, [cG (eM g.m) g]⟩), (280, bG 232 r), (440, bG 392 r), (232, rM r.m), (392, rM (mkM 1 r.m))], 2000⟩) (weak_ren [] mK (chkR_cons mK (chkR_cons mK (chkR_cons mK (chkRm rfl (by decide) rfl (fun _ => rfl) (fun a => by simp [okC]) (chkRm rfl (by decide) rfl (fun _ => rfl) (fun a => by simp [okC]) trivial))))) mD mQ) ?_
  refine ev_seq fun K1 h1 => ev_rf mB ?_
  repeat refine dr_act wN mb ma mc mT mR ?_
  refine dr_callF wN mr mb mx mr (c15 g hm1 hm2) (Nat.le_of_ble_eq_true rfl) mv mT mN ?_
  repeat refine dr_act wN mb ma mc mT mR ?_
  refine dr_callF wN mr mb mx mr (c31 es he1 he2) (Nat.le_of_ble_eq_true rfl) mv mT mN ?_
  refine dr_call wN mr mb mx (.cons (fG mr) (.cons (.cell (fES mr rfl)) .nil)) (hu32) (Nat.le_of_ble_eq_true rfl) mv mT mN ?_
  repeat refine dr_act wN mb ma mc mT mR ?_
  refine dr_nil (h1 _ ?_); clear h1
  refine ev_seq fun K1 h1 => ?_
  refine ev_seq fun K2 h2 => ev_rf mB ?_
  repeat refine dr_act wN mb ma mc mT mR ?_
  refine dr_call wN mr mb mx (.cons (fG mr) (.cons (fG mr) .nil)) (c18 r r hlr) (Nat.le_of_ble_eq_true rfl) mv mT mN ?_
  rw [qG_self]
  repeat refine dr_act wN mb ma mc mT mR ?_
  iterate 3 refine dr_act wG mb ma mc mT mR ?_
  rw [hcc]
  refine dr_act wN mb ma mc mT mR ?_
  refine dr_act wN mb ma mc mT mR ?_
  iterate 3 refine dr_act wG mb ma mc mT mR ?_
  rw [hjj]
  refine dr_act wN mb ma mc mT mR ?_
  refine dr_act wN mb ma mc mT mR ?_
  iterate 3 refine dr_act wG mb ma mc mT mR ?_
  rw [hoo]
  repeat refine dr_act wN mb ma mc mT mR ?_
  refine dr_nil (h2 _ ?_); clear h2
  refine ev_cond false mlq (fun h => by cases h) (fun h => ev_skip (h1 _ ?_)); clear h1
  refine ev_seq fun K1 h1 => ev_rf mB ?_
  repeat refine dr_act wN mb ma mc mT mR ?_
  refine dr_nil (h1 _ ?_); clear h1
  refine ev_seq fun K1 h1 => ev_rf mB ?_
  repeat refine dr_act wN mb ma mc mT mR ?_
  refine dr_call wN mr mb mx (.cons (.agg (.cons (fM mr (mkM_length 1 r.m).symm) (.cons (fn rfl) (.cons (fn rfl) (.cons (fn rfl) (.cons (fn rfl) (.cons (fn rfl) (.cons (fn rfl) .nil)))))))) (.cons (fN rfl) .nil)) hhd (Nat.le_of_ble_eq_true rfl) mv mT mN ?_
  repeat refine dr_act wN mb ma mc mT mR ?_
  refine dr_nil (h1 _ ?_); clear h1
  refine ev_seq fun K1 h1 => ?_
  refine ev_seq fun K2 h2 => ev_rf mB ?_
  repeat refine dr_act wN mb ma mc mT mR ?_
  refine dr_nil (h2 _ ?_); clear h2
  refine ev_cond _ ml (fun h => absurd (of_decide_eq_true h) (by omega)) (fun h => ev_skip (h1 _ ?_)); clear h1 h
  refine ev_seq fun K1 h1 => ?_
  refine ev_seq fun K2 h2 => ev_rf mB ?_
  repeat refine dr_act wN mb ma mc mT mR ?_
  refine dr_nil (h2 _ ?_); clear h2
  refine ev_cond _ ml (fun h => by simp at h) (fun h => ev_skip (h1 _ ?_)); clear h1 h
  refine ev_seq fun K1 h1 => ev_rf mB ?_
  repeat refine dr_act wN mb ma mc mT mR ?_
  refine dr_nil (h1 _ (ev_ret ?_)); clear h1
  exact retT [4] (hv := rfl)
end Go.Ev
namespace Go.Ev
open Go Go.RowKit
variable {P : Program}

abbrev FW (w : World) : Nat → Prop := fun k => k < w.heap.size

/-- What a type's cells read as: k cells, told by a value of α. -/
structure RdT (P : Program) (t k : Nat) {α : Type} (f : α → List V) (ok : α → Prop) : Prop where
  get : ∀ {H : Type} (enc : TypeId × Value → H) (w : World) (base : Nat) (spare : Nat → Bool) (held : Bool) (fuel : Nat) (cs : List Value) (x : DataW H × List MemPlace), DataW.trod enc P w base spare held fuel t cs = some x →
    ∃ a : α, ok a ∧ cs.length = k ∧ (f a).length = k ∧ ∀ (i : Nat) v c, cs[i]? = some v → (f a)[i]? = some c → Rd w (FW w) v c ∧ v.oneCell' = true

theorem one_get {α β : Type} {v u : α} {c d : β} {i : Nat} (h1 : [v][i]? = some u) (h2 : [c][i]? = some d) : u = v ∧ d = c := by
  cases i with
  | zero => simp at h1 h2; exact ⟨h1.symm, h2.symm⟩
  | succ i => simp at h1

theorem rd_int {t : TypeId} {kd : IntKind} (ht : P.underlying t = some (.int kd)) : RdT P t 1 (fun n : Int => [.val (.int kd n)]) (fun n => (Lit.int kd n).wf = true) := by
  refine ⟨?_⟩
  intro H enc w base spare held fuel cs x h
  obtain ⟨n, rfl, _, hw⟩ := DataW.trod_int ht h
  refine ⟨n, hw, rfl, rfl, fun i v c h1 h2 => ?_⟩
  obtain ⟨rfl, rfl⟩ := one_get h1 h2
  exact ⟨.val _, rfl⟩

theorem rd_bool {t : TypeId} (ht : P.underlying t = some .bool) : RdT P t 1 (fun n : Bool => [.val (.bool n)]) (fun _ => True) := by
  refine ⟨?_⟩
  intro H enc w base spare held fuel cs x h
  obtain ⟨n, rfl, _⟩ := DataW.trod_bool ht h
  refine ⟨n, trivial, rfl, rfl, fun i v c h1 h2 => ?_⟩
  obtain ⟨rfl, rfl⟩ := one_get h1 h2
  exact ⟨.val _, rfl⟩

theorem rd_slice {t e : TypeId} {k : Nat} {α : Type} {f : α → List V} {ok : α → Prop} (he : RdT P e k f ok) (hk : 0 < k) (hc : P.cellsOf e = k) (ht : P.underlying t = some (.slice e)) :
    RdT P t 1 (fun l : List α => [.list k (l.map f)]) (fun l => l.length ≤ maxLen ∧ ∀ a, a ∈ l → ok a) := by
  refine ⟨?_⟩
  intro H enc w base spare held fuel cs x h
  rcases DataW.trod_slice ht h with ⟨rfl, _⟩ | ⟨a, len, cap, elems, rest, n, _, rfl, _, hb, hlc, hcm, hel, hel2, _, _⟩
  · refine ⟨[], ⟨Nat.zero_le _, fun a ha => by simp at ha⟩, rfl, rfl, fun i v c h1 h2 => ?_⟩
    obtain ⟨rfl, rfl⟩ := one_get h1 h2
    exact ⟨.list ⟨0, 0, none⟩ (fun _ _ => undef) rfl (Nat.zero_le _) (Nat.le_refl _) (fun x hx => by simp at hx) (fun h => by omega) (fun h => by omega) (fun i x j c hi => by simp at hi) (fun i x j c hi => by simp at hi), rfl⟩
  · rw [hc] at hel2
    have key : ∀ m, m ≤ len → ∃ l : List α, l.length = m ∧ ∀ (i : Nat) b, l[i]? = some b → ok b ∧ (f b).length = k ∧ ∃ cs, w.cells? base (a.add (i * k)) k = some cs ∧ ∀ (j : Nat) v c, cs[j]? = some v → (f b)[j]? = some c → Rd w (FW w) v c ∧ v.oneCell' = true := by
      intro m
      induction m with
      | zero => exact fun _ => ⟨[], rfl, fun i b h => by simp at h⟩
      | succ m ih =>
        intro hm
        obtain ⟨l, h1, h2⟩ := ih (by omega)
        have h3 := hel2 m (by omega)
        have h4 : elems[m]? = some (elems[m]'(by omega)) := List.getElem?_eq_getElem (by omega)
        rw [h4, Option.bind_eq_some_iff] at h3
        obtain ⟨cs, h5, h6⟩ := h3
        obtain ⟨b, k1, k2, k3, k4⟩ := he.get enc w base spare held n cs _ h6
        refine ⟨l ++ [b], by simp [h1], fun i b' hb' => ?_⟩
        rw [List.getElem?_append] at hb'
        split at hb'
        · exact h2 i b' hb'
        · rename_i hge
          have : i = l.length := by
            have := (List.getElem?_eq_some_iff.1 hb').1
            simp only [List.length_cons, List.length_nil] at this
            omega
          subst this
          rw [Nat.sub_self, List.getElem?_cons_zero, Option.some.injEq] at hb'
          subst hb'
          rw [h1]
          exact ⟨k1, k3, cs, h5, k4⟩
    obtain ⟨l, h1, h2⟩ := key len (Nat.le_refl _)
    refine ⟨l, ⟨by omega, fun b hb' => ?_⟩, rfl, rfl, fun i v c e1 e2 => ?_⟩
    · obtain ⟨i, hi⟩ := List.getElem?_of_mem hb'
      exact (h2 i b hi).1
    obtain ⟨rfl, rfl⟩ := one_get e1 e2
    have cell : ∀ (i : Nat) x (j : Nat) c, (l.map f)[i]? = some x → x[j]? = some c → ∃ v, w.cell? (a.add (i * k + j)) = some v ∧ Rd w (FW w) v c ∧ v.oneCell' = true := by
      intro i x j c hi hj
      rw [List.getElem?_map, Option.map_eq_some_iff] at hi
      obtain ⟨b, hb1, rfl⟩ := hi
      obtain ⟨_, k2, cs, k3, k4⟩ := h2 i b hb1
      obtain ⟨_, m1, m2⟩ := World.cells?_some k3
      have hjk : j < k := by rw [← k2]; exact (List.getElem?_eq_some_iff.1 hj).1
      have h5 : cs[j]? = some (cs[j]'(by omega)) := List.getElem?_eq_getElem (by omega)
      have h6 := m2 j hjk
      rw [add_add, h5] at h6
      exact ⟨_, h6, k4 j _ c h5 hj⟩
    refine ⟨.list a (fun i j => (w.cell? (a.add (i * k + j))).getD undef) (by rw [List.length_map]; exact h1) (by omega) hlc (fun x hx => ?_) (fun _ => rfl) (fun hl => ?_) (fun i x j c hi hj => ?_) (fun i x j c hi hj => ?_), rfl⟩
    · obtain ⟨b, hb1, rfl⟩ := List.mem_map.1 hx
      obtain ⟨i, hi⟩ := List.getElem?_of_mem hb1
      exact (h2 i b hi).2.1
    · obtain ⟨b, hb1⟩ : ∃ b, l[0]? = some b := ⟨_, List.getElem?_eq_getElem (by omega)⟩
      obtain ⟨_, _, cs, k3, _⟩ := h2 0 b hb1
      have := World.cells?_block k3 hk
      rw [add_block] at this
      exact this
    · obtain ⟨v, v1, v2, v3⟩ := cell i x j c hi hj
      rw [v1]
      exact ⟨rfl, v3⟩
    · obtain ⟨v, v1, v2, v3⟩ := cell i x j c hi hj
      rw [v1]
      exact v2

/-- Fields, from a place on. -/
structure RdF (P : Program) (fs : List Field) (off k : Nat) {α : Type} (f : α → List V) (ok : α → Prop) : Prop where
  get : ∀ {H : Type} (enc : TypeId × Value → H) (w : World) (base : Nat) (spare : Nat → Bool) (held : Bool) (n : Nat) (cs : List Value), off + k ≤ cs.length → (∀ fld, fld ∈ fs → ∃ y, DataW.trod enc P w base spare held n fld.type ((cs.drop fld.offset).take (P.cellsOf fld.type)) = some y) →
    ∃ a : α, ok a ∧ (f a).length = k ∧ ∀ (i : Nat) v c, cs[off + i]? = some v → (f a)[i]? = some c → Rd w (FW w) v c ∧ v.oneCell' = true

theorem rdF_nil (off : Nat) : RdF P [] off 0 (fun _ : Unit => []) (fun _ => True) :=
  ⟨fun _ _ _ _ _ _ _ _ _ => ⟨(), trivial, rfl, fun i v c _ h => by simp at h⟩⟩

theorem rdF_cons {fld : Field} {fs : List Field} {off kt k : Nat} {α β : Type} {g : β → List V} {okb : β → Prop} {f : α → List V} {ok : α → Prop} (h : RdT P fld.type kt g okb) (ho : fld.offset = off) (hc : P.cellsOf fld.type = kt) (hk : RdF P fs (off + kt) k f ok) :
    RdF P (fld :: fs) off (kt + k) (fun p : β × α => g p.1 ++ f p.2) (fun p => okb p.1 ∧ ok p.2) := by
  refine ⟨?_⟩
  intro H enc w base spare held n cs hl hf
  obtain ⟨y, hy⟩ := hf fld (by simp)
  rw [ho, hc] at hy
  obtain ⟨b, k1, k2, k3, k4⟩ := h.get enc w base spare held n _ _ hy
  obtain ⟨a, m1, m2, m3⟩ := hk.get enc w base spare held n cs (by omega) (fun fld' h' => hf fld' (by simp [h']))
  refine ⟨(b, a), ⟨k1, m1⟩, by show (g b ++ f a).length = _; rw [List.length_append]; omega, fun i v c h1 h2 => ?_⟩
  have h2 : (g b ++ f a)[i]? = some c := h2
  rw [List.getElem?_append] at h2
  split at h2
  · rename_i hi
    refine k4 i v c ?_ h2
    rw [List.getElem?_take, if_pos (by omega), List.getElem?_drop]
    exact h1
  · rename_i hi
    refine m3 (i - kt) v c ?_ (by rw [← k3]; exact h2)
    rw [← h1]
    congr 1
    omega

theorem rd_struct {t k : Nat} {fs : Array Field} {α : Type} {f : α → List V} {ok : α → Prop} (ht : P.underlying t = some (.struct fs)) (hc : P.cellsOf t = k) (h : RdF P fs.toList 0 k f ok) : RdT P t k f ok := by
  refine ⟨?_⟩
  intro H enc w base spare held fuel cs x hx
  obtain ⟨xs, n, _, _, hl, hxs, hi⟩ := DataW.trod_struct ht hx
  obtain ⟨a, k1, k2, k3⟩ := h.get enc w base spare held n cs (by omega) (fun fld hf => by
    obtain ⟨i, h2⟩ := List.getElem?_of_mem hf
    have h2 : fs[i]? = some fld := by rw [← Array.getElem?_toList]; exact h2
    have h3 := hi i fld h2
    have h4 := (Array.getElem?_eq_some_iff.1 h2).1
    rw [List.getElem?_eq_getElem (by omega)] at h3
    exact ⟨_, h3⟩)
  exact ⟨a, k1, by omega, k2, fun i v c h1 h2 => k3 i v c (by rw [Nat.zero_add]; exact h1) h2⟩

theorem RdT.map {t k : Nat} {α β : Type} {f : α → List V} {ok : α → Prop} (h : RdT P t k f ok) (φ : α → β) {g : β → List V} {ok' : β → Prop} (hf : ∀ a, f a = g (φ a)) (ho : ∀ a, ok a → ok' (φ a)) : RdT P t k g ok' := by
  refine ⟨?_⟩
  intro H enc w base spare held fuel cs x hx
  obtain ⟨a, k1, k2, k3, k4⟩ := h.get enc w base spare held fuel cs x hx
  exact ⟨φ a, ho a k1, k2, by rw [← hf]; exact k3, fun i v c h1 h2 => k4 i v c h1 (by rw [hf]; exact h2)⟩

/-- An argument that is a struct. -/
theorem RdT.agg {t k : Nat} {α : Type} {f : α → List V} {ok : α → Prop} (h : RdT P t k f ok) {H : Type} {enc : TypeId × Value → H} {w : World} {base : Nat} {spare : Nat → Bool} {held : Bool} {cs : Array Value} {d : DataW H} {ps : List MemPlace} (hx : DataW.Trod enc P w base spare held t (.agg cs) d ps) :
    ∃ a : α, ok a ∧ Rd w (FW w) (.agg cs) (.agg (f a)) := by
  obtain ⟨fuel, hf⟩ := hx
  obtain ⟨a, k1, k2, k3, k4⟩ := h.get enc w base spare held fuel _ _ hf
  have k2 : cs.toList.length = k := k2
  refine ⟨a, k1, .agg (by rw [k3, ← k2]; simp) (fun i v c h1 h2 => (k4 i v c ?_ h2).1)⟩
  show cs.toList[i]? = some v
  rw [Array.getElem?_toList]; exact h1

/-- An argument of one cell. -/
theorem RdT.one {t : Nat} {α : Type} {f : α → V} {ok : α → Prop} (h : RdT P t 1 (fun a => [f a]) ok) {H : Type} {enc : TypeId × Value → H} {w : World} {base : Nat} {spare : Nat → Bool} {held : Bool} {v : Value} {d : DataW H} {ps : List MemPlace} (hx : DataW.Trod enc P w base spare held t v d ps) (hv : v.cells = #[v]) :
    ∃ a : α, ok a ∧ Rd w (FW w) v (f a) := by
  obtain ⟨fuel, hf⟩ := hx
  rw [hv] at hf
  obtain ⟨a, k1, k2, k3, k4⟩ := h.get enc w base spare held fuel _ _ hf
  exact ⟨a, k1, (k4 0 v _ rfl rfl).1⟩
end Go.Ev
namespace Go.Ev
open Go Go.RowKit Go.Proofs

theorem rd3 : RdT Try.prog 3 1 (fun n : Int => [vi n]) (fun _ => True) := (rd_int Try.underlying3).map id (fun _ => rfl) (fun _ _ => trivial)
theorem rd5 : RdT Try.prog 5 1 cB (fun _ => True) := (rd_int Try.underlying5).map id (fun _ => rfl) (fun _ _ => trivial)
theorem rd29 : RdT Try.prog 29 1 cM (fun l => l.length ≤ maxLen) := (rd_slice rd5 (by decide) (by kernel_rfl) Try.underlying29).map id (fun _ => rfl) (fun _ h => h.1)
theorem rd22 : RdT Try.prog 22 1 (fun m => [eM m]) Len := (rd_slice rd29 (by decide) (by kernel_rfl) Try.underlying22).map id (fun _ => rfl) (fun _ h => h)
theorem rd24 : RdT Try.prog 24 1 (fun m => [eM m]) Len := (rd_struct Try.underlying24 (by kernel_rfl) (rdF_cons rd22 rfl (by kernel_rfl) (rdF_nil _))).map (fun p => p.1) (fun _ => rfl) (fun _ h => h.1)
theorem rd26 : RdT Try.prog 26 4 cW (fun _ => True) := (rd_struct Try.underlying26 (by kernel_rfl) (rdF_cons rd3 rfl (by kernel_rfl) (rdF_cons rd3 rfl (by kernel_rfl) (rdF_cons rd3 rfl (by kernel_rfl) (rdF_cons rd3 rfl (by kernel_rfl) (rdF_nil _)))))).map (fun p => ⟨p.1, p.2.1, p.2.2.1, p.2.2.2.1⟩) (fun _ => rfl) (fun _ _ => trivial)
theorem rd28 : RdT Try.prog 28 7 (fun g : Gp => cG (eM g.m) g) (fun g => Len g.m) := (rd_struct Try.underlying28 (by kernel_rfl) (rdF_cons rd24 rfl (by kernel_rfl) (rdF_cons rd26 rfl (by kernel_rfl) (rdF_cons rd3 rfl (by kernel_rfl) (rdF_cons rd3 rfl (by kernel_rfl) (rdF_nil _)))))).map (fun p => ⟨p.1, p.2.1, p.2.2.1, p.2.2.2.1⟩) (fun _ => rfl) (fun _ h => h.1)
theorem rd45 : RdT Try.prog 45 3 (fun e : Ed => cE (eB e.s) e) (fun e => e.s.length ≤ maxLen) := (rd_struct Try.underlying45 (by kernel_rfl) (rdF_cons rd3 rfl (by kernel_rfl) (rdF_cons rd3 rfl (by kernel_rfl) (rdF_cons rd29 rfl (by kernel_rfl) (rdF_nil _))))).map (fun p => ⟨p.1, p.2.1, p.2.2.1⟩) (fun _ => rfl) (fun _ h => h.2.2.1)
end Go.Ev
namespace Go.Ev
open Go Go.RowKit Go.Proofs
theorem rd54 : RdT Try.prog 54 1 (fun es => [eES es]) (fun es => es.length ≤ maxLen ∧ ∀ e, e ∈ es → e.s.length ≤ maxLen) := (rd_slice rd45 (by decide) (by kernel_rfl) Try.underlying54).map id (fun _ => rfl) (fun _ h => h)
end Go.Ev
namespace Go.Proofs.Ytmkcbbbknbahgaa.fnExactDoEdits
open Go.ChangeShapes Go.WideShapes Go.ChangeAt Go.RowKit
open Go.ChangeMaps (shut_string)
theorem own : ownKnob Try.prog.godebug = none := by kernel_rfl
theorem laidOut : laidOutB Try.prog = true := by kernel_rfl
set_option maxRecDepth 100000 in
set_option maxHeartbeats 2000000 in
theorem lifted (os : Os) (started : os.Started) (H : Type) (enc : TypeId × Value → H) :
    ReturnsInHanded {} Try.checked os 5 .any (Rows.fnExactDoEditsSpec.pre6 enc Try.prog Try.f5 Rows.fnExactDoEditsRow.domain false) (Rows.fnExactDoEditsSpec.post enc Try.prog Try.f5 false true false false) := by
  refine returnsInHanded_of_change_sized (C := Try.checked) own started (by kernel_rfl) Try.func5
    (ChangeSpec.witness6 (enc := enc) (C := Try.checked) false ⟨#[], #[.agg #[.slice none 0 0, .int .i64 0, .int .i64 0, .int .i64 0, .int .i64 0, .int .i64 0, .int .i64 0], .slice none 0 0], []⟩ 8 (by kernel_rfl) (by kernel_rfl) (by kernel_rfl) (by kernel_rfl)) ?_
  intro W base args ds gs before hval0 hW hcnd hsz0 _
  have hval : ∀ (j : Nat) t v, Try.f5.params[j]? = some t → args[j]? = some v → Value.okWide Try.prog W .any base t v := hval0
  have hW' := hW
  obtain ⟨p, q, hA0, hV, rfl, hfz, hnd⟩ := hW
  have hA : DataW.TrodAll enc Try.prog W 0 (fun _ => true) true Try.f5.params.toList args.toList ds p := hA0
  rw [Try.params5] at hA hval
  obtain ⟨v0, vs0, d0, ds0, p0, q0, hargs, rfl, rfl, h0, r0⟩ := trodAll_cons hA
  obtain ⟨v1, vs1, d1, ds1, p1, q1, rfl, rfl, rfl, h1, r1⟩ := trodAll_cons r0
  obtain ⟨rfl, rfl, rfl⟩ := trodAll_nil r1
  obtain rfl : args = #[v0, v1] := by cases args; simp_all
  obtain ⟨rfl, rfl⟩ := trodVars_none hV
  obtain ⟨cs0, rfl, _⟩ := okWide_struct Try.underlying28 (hval 0 28 v0 rfl rfl)
  have lt0 : ∀ x ∈ p0, x.block < W.heap.size := by obtain ⟨m, hm⟩ := h0; exact DataW.trod_lt m _ _ _ hm
  obtain ⟨A1, len1, c1, rfl⟩ := okWide_slice Try.underlying54 (hval 1 54 v1 rfl rfl)
  have lt1 : ∀ x ∈ p1, x.block < W.heap.size := by obtain ⟨m, hm⟩ := h1; exact DataW.trod_lt m _ _ _ hm
  obtain ⟨x0, y0, z0⟩ := Go.Ev.RdT.agg Go.Ev.rd28 h0
  obtain ⟨x1, y1, z1⟩ := Go.Ev.RdT.one Go.Ev.rd54 h1 rfl
  clear hA0 hval0 hsz0
  refine ((Go.Ev.c5 x0 x1 y0 y1.1 y1.2).2 W (Go.Ev.FW W) #[.agg cs0, .slice A1 len1 c1] (fun _ h => h) rfl (fun i v x h1 h2 => ?_)).mono ?_
  · rcases i with _ | _ | i
    · simp at h1 h2; subst h1; subst h2; exact z0
    · simp at h1 h2; subst h1; subst h2; exact z1
    · simp at h2
  rintro e W' ⟨v', C', rfl, rfl, _, _, hV', bel, _⟩
  obtain rfl := hV'.val_inv
  exact ⟨_, rfl, _, _, _, [], _, [], hW', trodAll_mk1 (shut_bool Try.underlying4 _), (trodAll_cons_mk (Below.trod laidOut (by kernel_rfl) (of_decide_eq_true (by kernel_rfl)) h0 bel lt0) (trodAll_cons_mk (Below.trod laidOut (by kernel_rfl) (of_decide_eq_true (by kernel_rfl)) h1 bel lt1) trodAll_mk0)), rfl, bel.frame _, fun h => by cases h⟩
theorem cl1 : Try.pinned.checked.prog.funcNamed Rows.fnExactDoEditsRow.func = some 5 := by kernel_rfl
theorem cl2 : joinedFacts Try.pinned.checked.prog 5 Try.f5 Rows.fnExactDoEditsSpec Rows.fnExactDoEditsRow = true := by kernel_rfl
theorem cl3 : Try.f5.isInstance Try.pinned.checked.prog Rows.fnExactDoEditsRow.origin Rows.fnExactDoEditsRow.targs := of_decide_eq_true (by kernel_rfl)
theorem cl4 : Try.f5.isWrapper Try.pinned.checked.prog Rows.fnExactDoEditsRow.wrapper Rows.fnExactDoEditsRow.mainSum := (by unfold Func.isWrapper; first | (rw [if_pos (by decide +kernel)]; kernel_rfl) | (rw [if_neg (by decide +kernel)]; exact ⟨rfl, rfl⟩))
theorem over : Rows.fnExactDoEditsRow.holds Try.pinned (OpenSpec.ofChange Rows.fnExactDoEditsSpec) :=
  OpenClaim.holds_of_wide 5 Try.f5 rfl rfl rfl rfl rfl rfl rfl ⟨rfl, rfl, rfl, rfl, rfl⟩ rfl rfl rfl rfl rfl cl1 Try.func5 cl2 cl3 cl4
    (fun os started H enc _ => lifted os started H enc)
theorem proved : Rows.FnExactDoEditsSaid := over
#print axioms proved
end Go.Proofs.Ytmkcbbbknbahgaa.fnExactDoEdits
namespace Go.Proofs.Ytmkcbbbknbahgaa
/-- The row, under a short name, for the claim. -/
theorem fnExactDoEdits_holds : Rows.FnExactDoEditsSaid := fnExactDoEdits.proved
end Go.Proofs.Ytmkcbbbknbahgaa
