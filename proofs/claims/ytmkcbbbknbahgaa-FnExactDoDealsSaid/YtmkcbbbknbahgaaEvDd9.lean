/- Part 9 of the proof: the evaluator and the contracts of functions. -/
import Derived.Below
import Derived.ChangeArms
import Derived.ChangeOld
import Derived.DataReads
import Derived.KernelRfl
import Derived.Laws.AppendOwn
import Derived.Laws.BytesArg
import Derived.Laws.BytesString
import Derived.Laws.CopyRow
import Derived.Laws.Entries
import Derived.Laws.IdiomCopy
import Derived.Laws.MakeOwn
import Derived.Laws.OwnMore
import Derived.OpenShut
import Derived.Orders
import Derived.Test.YtmkcbbbknbahgaaProg
import Derived.Test.YtmkcbbbknbahgaaEvDd8
set_option linter.unusedVariables false
set_option linter.unusedSimpArgs false
namespace Go.Ev
open Go Go.RowKit Go.Proofs

/-- A memory in a variable. -/
abbrev bY (n : Nat) (m : List (List Int)) : Root := ⟨31, 1, [[.ref (n, none) 0 m.length]]⟩

theorem c189m (m : List (List Int)) (w : Win) (xs : List Int) (hw : GW m w) (hx : xs.length ≤ 1048576) :
    GoodR Try.prog 189 [.ptr (0, none) 0 0, eW w, eB xs] [bY 1 m, rM m] (oWo (apM m w xs)) [some (bY 2 (memO m (apM m w xs))), none, some (rM (memO m (apM m w xs)))] := by
  refine goodR_of (E := En 96 2) (fn := Try.f189) (by kernel_rfl) (by kernel_rfl) rfl rfl (by simp only [List.length_cons, List.length_nil]; decide) ⟨rfl, Nat.le_of_ble_eq_true rfl⟩ (by rcases apM m w xs with _ | ⟨m', w'⟩ <;> rfl) ⟨rfl, okMM, trivial⟩ (fun C0 => ?_)
  have hc := hw.c64
  have hn0 := hw.n0
  have hn1 := hw.n1
  have hs0 := hw.s0
  have hc1 := hw.c1
  have ha0 := hw.a0
  have ha1 := hw.a1
  have hrow := hw.row
  have hml := hw.g.l
  have w1 : IntKind.i64.wrap (w.s + w.n) = w.s + w.n := wrap_of (by omega) (by omega)
  have w2 : IntKind.i64.wrap (w.n + (xs.length : Nat)) = w.n + (xs.length : Nat) := wrap_of (by omega) (by omega)
  have w4 : IntKind.i64.wrap (2 * w.c) = 2 * w.c := wrap_of (by omega) (by omega)
  simp only [argT, rsT, Nat.reduceAdd, List.length_cons, List.length_nil, eB]
  refine ev_seq fun K1 h1 => ev_rf mB ?_
  repeat refine dr_act wN mb ma mc mT mR ?_
  refine dr_nil (h1 _ ?_); clear h1 K1
  refine ev_seq fun K1 h1 => ev_reg mB ?_
  repeat refine dr_act wN mb ma mc mT mR ?_
  refine dr_nil ⟨fun _ => by kernel_rfl, h1 _ ?_⟩; clear h1
  rw [w1, w2]
  refine ev_seq fun K1 h1 => ?_
  refine ev_seq fun K2 h2 => ev_rf mB ?_
  repeat refine dr_act wN mb ma mc mT mR ?_
  refine dr_nil (h2 _ ?_); clear h2
  refine ev_cond _ ml (fun h => ?_) (fun h => ev_skip (h1 _ ?_))
  · have hle := of_decide_eq_true h
    clear h1
    have e : apM m w xs = some (wrM m w.a.toNat (w.s + w.n).toNat xs, ⟨w.a, w.s, w.n + xs.length, w.c⟩) := by rw [apM, if_pos (by omega)]
    rw [e]
    refine ev_seq fun K1 h1 => ev_reg mB ?_
    repeat refine dr_act wN mb ma mc mT mR ?_
    refine dr_ixp wN mr mb ml ml mr mS ⟨ha0, ha1⟩ (Nat.zero_add _) mT ?_
    refine dr_ldr wN mr mb ml mr (by omega) mZ mT ?_
    repeat refine dr_act wN mb ma mc mT mR ?_
    refine dr_slr (w.s + w.n) ((m.getD w.a.toNat []).length : Nat) wN mr mb ml mr (by omega) mr mr mS (by omega) mT ?_
    repeat refine dr_act wN mb ma mc mT mR ?_
    refine dr_cpr xs wN mr mb ml mr (by omega) (by simp only [En_nt, lookO, lookT, Nat.reduceEqDiff, Nat.reduceLT, ↓reduceIte]; rfl) mS (by simp only [Int.toNat_natCast]; omega) mT mr fun z => ?_
    refine dr_nil ⟨fun _ => by kernel_rfl, h1 _ ?_⟩; clear h1
    rw [Nat.zero_add]
    refine ev_weak (σ' := ⟨[(4, .ptr (2, none) 0 0), (6, .ptr (10, none) 0 0), (9, vi (w.n + (xs.length : Nat)))], [(0, ⟨31, 1, [[.ref (400, none) 0 m.length]]⟩), (2, ⟨32, 4, [cW w]⟩), (10, ⟨32, 4, [[vi 0, vi 0, vi 0, vi 0]]⟩), (400, rM (wrM m w.a.toNat (w.s + w.n).toNat xs))], 408⟩) (weak_ren [(400, 1)] mK (chkR_cons mK (chkR_cons mK (chkR_cons mK (chkRm rfl (by decide) rfl (fun _ => rfl) (fun a => by simp [okC]) trivial)))) mD mQ) ?_
    refine ev_seq fun K1 h1 => ev_rf mB ?_
    repeat refine dr_act wN mb ma mc mT mR ?_
    refine dr_nil (h1 _ (ev_ret ?_)); clear h1
    refine retLR [400] (res' := [.cell 6 32, .tmp 7]) mr (.cell nT mZ ma mc mP (.tmp nT mL .nil)) rfl (by decide) rfl ⟨⟨_, rfl, rfl, rfl, ?_⟩, ⟨_, rfl, rfl, rfl, rnMap (g := cR) (fun _ => rfl) _⟩, trivial⟩
    simp only [bY, memO, wrM_length]; rfl
  have hgt := of_decide_eq_false h
  clear h1 K1 h
  have none' : apM m w xs = none ∨ ¬ (w.n + (xs.length : Nat) > 64) ∧ ¬ (m.length : Int) = 16 := by
    by_cases c : 64 - w.n < xs.length ∨ m.length = 16
    · left; rw [apM, if_neg (by omega), if_pos c]
    · right; constructor <;> omega
  refine ev_seq fun K1 h1 => ?_
  refine ev_seq fun K2 h2 => ev_rf mB ?_
  repeat refine dr_act wN mb ma mc mT mR ?_
  cases hd : decide (w.n + (xs.length : Nat) > 64)
  rotate_left
  · iterate 6 refine dr_skip wG mT ?_
    repeat refine dr_act wN mb ma mc mT mR ?_
    refine dr_nil (h2 _ ?_); clear h2
    have e : apM m w xs = none := none'.resolve_right fun k => k.1 (of_decide_eq_true hd)
    refine ev_cond true mlq (fun h => ?_) (fun h => by cases h)
    rw [e]
    refine ev_weak (σ' := ⟨[(6, .ptr (10, none) 0 0)], [(0, bY 400 m), (10, ⟨32, 4, [[vi 0, vi 0, vi 0, vi 0]]⟩), (400, rM m)], 408⟩) (weak_ren [(400, 1)] mK (chkR_cons mK (chkR_cons mK (chkRm rfl (by decide) rfl (fun _ => rfl) (fun a => by simp [okC]) trivial))) mD mQ) ?_
    refine ev_seq fun K2 h2 => ev_rf mB ?_
    repeat refine dr_act wN mb ma mc mT mR ?_
    refine dr_nil (h2 _ (ev_ret ?_)); clear h2 h1
    exact retLR [400] (res' := [.cell 6 32, .tmp 7]) mr (.cell nT mZ ma mc mP (.tmp nT mL .nil)) rfl (by decide) rfl ⟨⟨_, rfl, rfl, rfl, rfl⟩, ⟨_, rfl, rfl, rfl, rnMap (g := cR) (fun _ => rfl) _⟩, trivial⟩
  repeat refine dr_act wG mb ma mc mT mR ?_
  repeat refine dr_act wN mb ma mc mT mR ?_
  refine dr_nil (h2 _ ?_); clear h2
  refine ev_cond _ ml (fun h => ?_) (fun h => ev_skip (h1 _ ?_))
  · have hm := of_decide_eq_true h
    have e : apM m w xs = none := none'.resolve_right fun k => k.2 hm
    rw [e]
    refine ev_weak (σ' := ⟨[(6, .ptr (10, none) 0 0)], [(0, bY 400 m), (10, ⟨32, 4, [[vi 0, vi 0, vi 0, vi 0]]⟩), (400, rM m)], 408⟩) (weak_ren [(400, 1)] mK (chkR_cons mK (chkR_cons mK (chkRm rfl (by decide) rfl (fun _ => rfl) (fun a => by simp [okC]) trivial))) mD mQ) ?_
    refine ev_seq fun K2 h2 => ev_rf mB ?_
    repeat refine dr_act wN mb ma mc mT mR ?_
    refine dr_nil (h2 _ (ev_ret ?_)); clear h2 h1
    exact retLR [400] (res' := [.cell 6 32, .tmp 7]) mr (.cell nT mZ ma mc mP (.tmp nT mL .nil)) rfl (by decide) rfl ⟨⟨_, rfl, rfl, rfl, rfl⟩, ⟨_, rfl, rfl, rfl, rnMap (g := cR) (fun _ => rfl) _⟩, trivial⟩
  have hm : ¬ (m.length : Int) = 16 := of_decide_eq_false h
  have hle := of_decide_eq_false hd
  clear h1 K1 h hd none'
  have e : apM m w xs = some (m ++ [padB (bytesOf m w ++ xs) (capN w.c (w.n + xs.length)).toNat], ⟨m.length, 0, w.n + xs.length, capN w.c (w.n + xs.length)⟩) := by rw [apM, if_neg (by omega), if_neg (by omega)]
  rw [e]
  have hcap := capN_le (c := w.c) (need := w.n + (xs.length : Nat)) (by omega)
  have hbl := bytesOf_length m w
  refine ev_seq fun K1 h1 => ev_rf mB ?_
  repeat refine dr_act wN mb ma mc mT mR ?_
  rw [w4]
  repeat refine dr_act wN mb ma mc mT mR ?_
  simp only [if_true, Bool.false_eq_true, if_false, capI]
  generalize capN w.c (w.n + (xs.length : Nat)) = cap at *
  have hpad : ovr (ovr (List.replicate cap.toNat 0) 0 (bytesOf m w)) w.n.toNat xs = padB (bytesOf m w ++ xs) cap.toNat := by
    rw [← hbl]; exact ovr_pad (by omega)
  have hpl : (padB (bytesOf m w ++ xs) cap.toNat).length = cap.toNat := padB_length (by rw [List.length_append]; omega)
  refine dr_act wN mb ma (by omega) mT mR ?_
  repeat refine dr_act wN mb ma mc mT mR ?_
  refine dr_nil (h1 _ ?_); clear h1
  refine ev_seq fun K1 h1 => ev_reg mB ?_
  repeat refine dr_act wN mb ma mc mT mR ?_
  refine dr_callR [1] [] wN mr mb mx (c107 m w hw.fits (wrap_of (by omega) (by omega))) (.ren rfl rfl (.ren rfl rfl .nil)) (hand1 mr) ⟨⟨by decide, nz⟩, Nat.le_of_ble_eq_true rfl⟩ (v := .ref (1, some (w.a.toNat, 0)) w.s.toNat w.n.toNat) rfl mT (wr1.trans mr) ?_
  refine dr_cpb (List.replicate cap.toNat 0) (bytesOf m w) wN mr mb ml (by rw [← rep0]; rfl) (elsRow ml mr (by omega) (bytesOf_eq hw.fits).symm) mS (by omega) mT mr fun z => ?_
  refine dr_nil ⟨fun _ => by kernel_rfl, h1 _ ?_⟩; clear h1
  refine ev_seq fun K1 h1 => ev_rf mB ?_
  repeat refine dr_act wN mb ma mc mT mR ?_
  refine dr_slp (a := w.n) (c := (cap.toNat : Nat)) (v := .ref (282, none) w.n.toNat (cap.toNat - w.n.toNat)) wN mr mb ml mr mr mr mS (by omega) (by simp only [Nat.zero_add, Int.toNat_natCast]) mT ?_
  repeat refine dr_act wN mb ma mc mT mR ?_
  refine dr_cpb (ovr (List.replicate cap.toNat 0) 0 (bytesOf m w)) xs wN mr mb ml mr (by simp only [En_nt, lookO, lookT, Nat.reduceEqDiff, Nat.reduceLT, ↓reduceIte]; rfl) mS (by omega) mT mr fun z => ?_
  rw [hpad]
  refine dr_nil (h1 _ ?_); clear h1
  refine ev_seq fun K1 h1 => ev_rf mB ?_
  repeat refine dr_act wN mb ma mc mT mR ?_
  refine dr_act wN mb ma (by exact ⟨⟨by decide, by decide, fun x hx => by simp at hx; subst hx; rfl⟩, ⟨hpl.symm, okBn⟩, by decide⟩) mT mR ?_
  refine dr_act wN mb ma (by exact ⟨by simp only [maxLen]; omega, by omega⟩) mT mR ?_
  repeat refine dr_act wN mb ma mc mT mR ?_
  refine dr_nil (h1 _ ?_); clear h1
  have w5 : IntKind.i64.wrap (((m.length + 1 : Nat) : Int) - 1) = (m.length : Nat) := by rw [wrap_of (by omega) (by omega)]; omega
  refine ev_seq fun K1 h1 => ev_rf mB ?_
  repeat refine dr_act wN mb ma mc mT mR ?_
  have hcc : ((cap.toNat : Nat) : Int) = cap := by omega
  rw [w5, hcc]
  refine dr_nil (h1 _ (ev_ret ?_)); clear h1
  refine retLR [458] (res' := [.cell 6 32, .tmp 7]) mr (.cell nT mZ ma mc mP (.tmp nT mL .nil)) rfl (by decide) rfl ⟨⟨_, rfl, rfl, rfl, ?_⟩, ⟨_, rfl, rfl, rfl, ?_⟩, trivial⟩
  · simp only [bY, memO, List.length_append, List.length_cons, List.length_nil]; rfl
  · refine Eq.trans ?_ (rnMap (g := cR) (fun _ => rfl) (m ++ [padB (bytesOf m w ++ xs) cap.toNat]))
    rw [List.map_append]; rfl

theorem rnR_rWS {ρ : Nat → Nat} {ws : List Win} : rnR ρ (rWS ws) = rWS ws := by
  show Root.mk 32 4 ((ws.map cW).map (·.map (rnC ρ))) = _
  rw [← rnMap (fun _ => rfl)]
theorem rnR_one {ρ : Nat → Nat} {ty sz : Nat} {cs : List V} : rnR ρ ⟨ty, sz, [cs]⟩ = ⟨ty, sz, [cs.map (rnC ρ)]⟩ := rfl
theorem rnC_ref {ρ : Nat → Nat} {p : Pl} {off len : Nat} : rnC ρ (.ref p off len) = .ref (ρ p.1, p.2) off len := rfl
theorem rnC_ptr {ρ : Nat → Nat} {p : Pl} {i j : Nat} : rnC ρ (.ptr p i j) = .ptr (ρ p.1, p.2) i j := rfl
theorem rnC_val {ρ : Nat → Nat} {v : Value} : rnC ρ (.val v) = .val v := rfl
theorem mRR2 {p : Prop} (h : p := by simp only [wrR, newR, upN, List.map_nil, List.map_cons, List.nil_append, List.cons_append, Option.map_some, Option.map_none, rnR_rM, rnR_rWS, rnR_rB, rnR_one, rnC_ref, rnC_ptr, rnC_val, List.length_cons, List.length_nil, Nat.reduceAdd, Nat.reduceLT, Nat.reduceSub, Nat.lt_irrefl, ↓reduceIte, getD0, getD1, applyW, dropR, Nat.reduceEqDiff, Nat.add_zero] <;> rfl) : p := h
theorem c189u (m : List (List Int)) (w : Win) (xs : List Int) (hw : GW m w) (hx : xs.length ≤ 1048576) :
    GoodR Try.prog 189 [.ptr (0, none) 0 0, eW w, eB xs] [bY 1 m, rM m] (.tup [eW (uMW (apM m w xs)).2, vb (apM m w xs).isSome]) [some ⟨31, 1, [[.ref (2, none) 0 (memO m (apM m w xs)).length]]⟩, none, some (rM (memO m (apM m w xs)))] := by
  have h := c189m m w xs hw hx
  cases e : apM m w xs with
  | none => rw [e] at h; exact h
  | some x => obtain ⟨m', w'⟩ := x; rw [e] at h; exact h
end Go.Ev
namespace Go.Ev
open Go Go.RowKit Go.Proofs

theorem c107f (m : List (List Int)) (w : Win) (h : GW m w) : GoodR Try.prog 107 [eMem m, eW w] [] (eB (bytesOf m w)) [] := by
  refine goodR_of (E := En 19 0) (fn := Try.f107) (by kernel_rfl) (by kernel_rfl) rfl rfl (by simp only [List.length_cons, List.length_nil]; decide) ⟨rfl, by simp only [List.length_cons, List.length_nil]; decide⟩ rfl trivial (fun C0 => ?_)
  simp only [argT, rsT, Nat.reduceAdd, List.length_cons, List.length_nil, eB, eM, eWS]
  have g1 := h.a0
  have g2 := h.a1
  have g3 := h.s0
  have g4 := h.n0
  have g5 := h.n1
  have g6 := h.c1
  have g7 := h.row
  have g8 := h.c64
  refine ev_seq fun K1 h1 => ?_
  refine ev_rf mB ?_
  iterate 3 refine dr_act wN mb ma mc mT mR ?_
  refine dr_nil (h1 _ ?_); clear h1
  refine ev_seq fun K1 h1 => ?_
  refine ev_reg mB ?_
  iterate 4 refine dr_act wN mb ma mc mT mR ?_
  refine dr_ix ([] : List Int) wN mr mb ml ml mS (by omega) mT ?_
  iterate 8 refine dr_act wN mb ma mc mT mR ?_
  rw [wrap_of (x := w.s + w.n) (by omega) (by omega)]
  refine dr_sl (ys := (m.getD w.a.toNat ([] : List Int))) (a := w.s) (c := w.s + w.n) (na := w.s.toNat) (nc := (w.s + w.n).toNat) wN mr mb ml mbn mbn mS (by omega) (by omega) mT ?_
  refine dr_act wN mb ma mc mT mR ?_
  refine dr_nil ⟨fun _ => by kernel_rfl, h1 _ ?_⟩; clear h1
  refine ev_ret ?_
  rw [bytesOf_eq h.fits, show (w.s + w.n).toNat - w.s.toNat = w.n.toNat from by omega]
  exact retLR [] (res' := [.tmp 4]) mr (.tmp nT mL .nil) rfl ⟨by decide, by decide⟩ rfl trivial

theorem c198 (m : List (List Int)) (w : Win) (n : Int) (h : GW m w) (h0 : 0 ≤ n ∧ n ≤ w.n) : GoodR Try.prog 198 [oM 0 m, eW w, vi n] [rM m] (.tup []) [some (rM (tnM m w n))] := by
  refine goodR_of (E := En 20 1) (fn := Try.f198) (by kernel_rfl) (by kernel_rfl) rfl rfl (by simp only [List.length_cons, List.length_nil]; decide) ⟨rfl, by simp only [List.length_cons, List.length_nil]; decide⟩ rfl ⟨(okMap (fun _ => by first | rfl | simp [okC]) _), trivial⟩ (fun C0 => ?_)
  simp only [argT, rsT, Nat.reduceAdd, List.length_cons, List.length_nil, eB, eM, eWS]
  have g1 := h.a0
  have g2 := h.a1
  have g3 := h.s0
  have g4 := h.n0
  have g5 := h.n1
  have g6 := h.c1
  have g7 := h.row
  have g8 := h.c64
  refine ev_seq fun K1 h1 => ?_
  refine ev_rf mB ?_
  iterate 2 refine dr_act wN mb ma mc mT mR ?_
  refine dr_nil (h1 _ ?_); clear h1
  refine ev_seq fun K1 h1 => ?_
  refine ev_rf mB ?_
  iterate 2 refine dr_act wN mb ma mc mT mR ?_
  refine dr_callR [0] [] wN mr mb mx (c107 m w h.fits (wrap_of (by omega) (by omega))) (.ren rfl rfl (.ren rfl rfl .nil)) ⟨⟨_, mr, rfl, rfl, rnMap (fun _ => rfl) _, okMM⟩, trivial⟩ ⟨⟨by decide, nz⟩, Nat.le_of_ble_eq_true rfl⟩ (v := .ref (0, some (w.a.toNat, 0)) w.s.toNat w.n.toNat) rfl mT mRR2 ?_
  refine dr_act wN mb ma mc mT mR ?_
  refine dr_nil (h1 _ ?_); clear h1
  refine ev_seq fun K1 h1 => ?_
  refine ev_rf mB ?_
  iterate 2 refine dr_act wN mb ma mc mT mR ?_
  refine dr_slo (a := 0) (c := n) (off' := w.s.toNat) (len' := n.toNat) wN mr mb ml (getP_map (g := cR) ([] : List Int) mr (by first | omega | (simp only [wrM_len]; omega)) rfl) mbn mbn mS (by omega) (by omega) mT ?_
  refine dr_callR [0] [] wN mr mb mx (c210 m w.a.toNat w.s.toNat n.toNat mh mh mh) (.ren rfl rfl .nil) ⟨⟨_, mr, rfl, rfl, rnMap (fun _ => rfl) _, okMM⟩, trivial⟩ ⟨⟨by decide, nz⟩, Nat.le_of_ble_eq_true rfl⟩ (v := .tup []) rfl mT mRR2 ?_
  generalize e1 : wrM m w.a.toNat w.s.toNat (((m.getD w.a.toNat []).drop w.s.toNat).take n.toNat).reverse = m1
  have l1 : m1.length = m.length := by rw [← e1, wrM_len]
  have r1 : (m1.getD w.a.toNat []).length = (m.getD w.a.toNat []).length := by rw [← e1, wrM_rowlen (by omega) (by simp only [List.length_reverse, List.length_take, List.length_drop]; omega)]
  refine dr_nil (h1 _ ?_); clear h1
  refine ev_seq fun K1 h1 => ?_
  refine ev_rf mB ?_
  iterate 2 refine dr_act wN mb ma mc mT mR ?_
  refine dr_slo (a := n) (c := (w.n.toNat : Int)) (off' := w.s.toNat + n.toNat) (len' := w.n.toNat - n.toNat) wN mr mb ml (getP_map (g := cR) ([] : List Int) mr (by first | omega | (simp only [wrM_len]; omega)) rfl) mbn mbn mS (by omega) (by omega) mT ?_
  refine dr_callR [0] [] wN mr mb mx (c210 m1 w.a.toNat (w.s.toNat + n.toNat) (w.n.toNat - n.toNat) mh mh mh) (.ren rfl rfl .nil) ⟨⟨_, mr, rfl, rfl, rnMap (fun _ => rfl) _, okMM⟩, trivial⟩ ⟨⟨by decide, nz⟩, Nat.le_of_ble_eq_true rfl⟩ (v := .tup []) rfl mT mRR2 ?_
  generalize e2 : wrM m1 w.a.toNat (w.s.toNat + n.toNat) (((m1.getD w.a.toNat []).drop (w.s.toNat + n.toNat)).take (w.n.toNat - n.toNat)).reverse = m2
  have l2 : m2.length = m.length := by rw [← e2, wrM_len]; exact l1
  have r2 : (m2.getD w.a.toNat []).length = (m.getD w.a.toNat []).length := by rw [← e2, wrM_rowlen (by omega) (by simp only [List.length_reverse, List.length_take, List.length_drop]; omega)]; exact r1
  refine dr_nil (h1 _ ?_); clear h1
  refine ev_rf mB ?_
  refine dr_act wN mb ma mc mT mR ?_
  refine dr_callR [0] [] wN mr mb mx (c210 m2 w.a.toNat w.s.toNat w.n.toNat mh mh mh) (.ren rfl rfl .nil) ⟨⟨_, mr, rfl, rfl, rnMap (fun _ => rfl) _, okMM⟩, trivial⟩ ⟨⟨by decide, nz⟩, Nat.le_of_ble_eq_true rfl⟩ (v := .tup []) rfl mT mRR2 ?_
  refine dr_nil ?_
  have e := turn_eq h h0 e1.symm e2.symm rfl
  rw [e]
  exact retLR [] (res' := []) mr (.nil) rfl ⟨by decide, by decide⟩ rfl ⟨⟨_, mr, rfl, rfl, rnMap (fun _ => rfl) _⟩, trivial⟩
end Go.Ev
namespace Go.Ev
open Go Go.RowKit Go.Proofs

theorem c179 (m : List (List Int)) (w : Win) (i b : Int) (hl1 : m.length ≤ 1048576) (hl2 : ∀ r, r ∈ m → r.length ≤ 1048576) : Good Try.prog 179 [eMem m, eW w, vi i, v8 b] (.tup [oM 0 (uM (wrAt m w i b)), vb (wrAt m w i b).isSome]) [rM (uM (wrAt m w i b))] := by
  refine good_of (E := En 34) (fn := Try.f179) (by kernel_rfl) (by kernel_rfl) rfl rfl (by simp only [List.length_cons, List.length_nil]; decide) (fun C0 => ?_)
  simp only [argT, Nat.reduceAdd, eB, eM, eWS]
  refine ev_seq fun K1 h1 => ?_
  refine ev_rf mB ?_
  iterate 4 refine dr_act wN mb ma mc mT mR ?_
  refine dr_nil (h1 _ ?_); clear h1
  refine ev_seq fun K1 h1 => ?_
  refine ev_seq fun K2 h2 => ?_
  refine ev_rf mB ?_
  iterate 3 refine dr_act wN mb ma mc mT mR ?_
  refine dr_call wN mr mb mx (.cons (fN rfl) (.cons (.cell (fEls mr rfl rfl)) .nil)) (c146a m w mh mh) (Nat.le_of_ble_eq_true rfl) mv mT mN ?_
  iterate 2 refine dr_act wN mb ma mc mT mR ?_
  cases hc1 : (okW m w)
  · iterate 6 refine dr_skip wG mT ?_
    refine dr_act wN mb ma mc mT mR ?_
    refine dr_nil (h2 _ ?_); clear h2
    refine ev_cond true mlq (fun h => ?_) (fun h => by cases h)
    refine ev_seq fun K2 h2 => ?_
    refine ev_rf mB ?_
    iterate 3 refine dr_act wN mb ma mc mT mR ?_
    refine dr_nil (h2 _ ?_); clear h2
    refine ev_weak (weak_nil 16 0 0 29 1 mr mr mr mNl (by decide : 160 < 168)) ?_
    refine ev_ret ?_
    rw [show wrAt m w i b = none from by simp [wrAt, *]]
    simp only [oM, uM, uMW, Option.getD_some, wrM_len, Option.isSome_some]
    exact retL [160] (res' := [.cell 8 31, .tmp 9]) mr (.cell nT mZ ma mc mP (.tmp nT mL .nil)) rfl mr (by decide) ⟨⟨mr, rfl⟩, trivial⟩
  have hG := okW_GW hc1
  have g1 := hG.a0
  have g2 := hG.a1
  have g3 := hG.s0
  have g4 := hG.n0
  have g5 := hG.n1
  have g6 := hG.c1
  have g7 := hG.row
  have g8 := hG.c64
  iterate 4 refine dr_act wG mb ma mc mT mR ?_
  rw [wrap_of (x := w.n - 1) (by omega) (by omega)]
  refine dr_callF wG mr mb mx mr (c123 i 0 (w.n - 1)) (Nat.le_of_ble_eq_true rfl) mv mT mN ?_
  refine dr_act wG mb ma mc mT mR ?_
  refine dr_act wN mb ma mc mT mR ?_
  refine dr_nil (h2 _ ?_); clear h2
  cases hc2 : (decide (0 ≤ i ∧ i ≤ (w.n - 1)))
  · have hc2 := of_decide_eq_false hc2
    refine ev_cond true mlq (fun h => ?_) (fun h => by cases h)
    refine ev_seq fun K2 h2 => ?_
    refine ev_rf mB ?_
    iterate 3 refine dr_act wN mb ma mc mT mR ?_
    refine dr_nil (h2 _ ?_); clear h2
    refine ev_weak (weak_nil 16 0 0 29 1 mr mr mr mNl (by decide : 160 < 168)) ?_
    refine ev_ret ?_
    rw [show wrAt m w i b = none from by simp [wrAt, *]]
    simp only [oM, uM, uMW, Option.getD_some, wrM_len, Option.isSome_some]
    exact retL [160] (res' := [.cell 8 31, .tmp 9]) mr (.cell nT mZ ma mc mP (.tmp nT mL .nil)) rfl mr (by decide) ⟨⟨mr, rfl⟩, trivial⟩
  have hc2 := of_decide_eq_true hc2
  refine ev_cond false mlq (fun h => by cases h) (fun h => ?_)
  refine ev_skip (h1 _ ?_); clear h1
  refine ev_seq fun K1 h1 => ?_
  refine ev_rf mB ?_
  refine dr_act wN mb ma mc mT mR ?_
  refine dr_callF wN mr mb mx mr (c127 m mh mh) (Nat.le_of_ble_eq_true rfl) mv mT mN ?_
  iterate 2 refine dr_act wN mb ma mc mT mR ?_
  refine dr_nil (h1 _ ?_); clear h1
  refine ev_seq fun K1 h1 => ?_
  refine ev_rf mB ?_
  iterate 2 refine dr_act wN mb ma mc mT mR ?_
  refine dr_callR [144] [] wN mr mb mx (c107 m w hG.fits (wrap_of (by omega) (by omega))) (.ren rfl rfl (.ren rfl rfl .nil)) ⟨⟨_, mr, rfl, rfl, rnMap (fun _ => rfl) _, okMM⟩, trivial⟩ ⟨⟨by decide, nz⟩, Nat.le_of_ble_eq_true rfl⟩ (v := .ref (144, some (w.a.toNat, 0)) w.s.toNat w.n.toNat) rfl mT mRR2 ?_
  iterate 2 refine dr_act wN mb ma mc mT mR ?_
  refine dr_ixp wN mr mb ml ml (getP_map (g := cR) ([] : List Int) mr (by first | omega | (simp only [wrM_len]; omega)) rfl) mS (by omega) (ik := (w.s + i).toNat) (by omega) mT ?_
  refine dr_str (m := m) (r := w.a.toNat) (k := (w.s + i).toNat) (b := b) wN mr mb mlq mr mlq mA ⟨by omega, by omega⟩ mT mR ?_
  refine dr_nil (h1 _ ?_); clear h1
  refine ev_seq fun K1 h1 => ?_
  refine ev_rf mB ?_
  iterate 3 refine dr_act wN mb ma mc mT mR ?_
  refine dr_nil (h1 _ ?_); clear h1
  refine ev_ret ?_
  rw [show wrAt m w i b = some (wrM m w.a.toNat ((w.s + i).toNat) [b]) from by simp [wrAt, *]]
  simp only [oM, uM, uMW, Option.getD_some, wrM_len, Option.isSome_some]
  exact retL [144] (res' := [.cell 8 31, .tmp 9]) mr (.cell nT mZ ma mc mP (.tmp nT mL .nil)) rfl mr (by decide) ⟨⟨mr, (pure_map fun _ => by first | rfl | simp [pcell])⟩, trivial⟩

theorem c215 (m : List (List Int)) (w : Win) (n : Int) (h : GW m w) (h0 : 0 ≤ n ∧ n ≤ w.n) : Good Try.prog 215 [eMem m, eW w, vi n] (oM 0 (tnM m w n)) [rM (tnM m w n)] := by
  refine good_of (E := En 23) (fn := Try.f215) (by kernel_rfl) (by kernel_rfl) rfl rfl (by simp only [List.length_cons, List.length_nil]; decide) (fun C0 => ?_)
  simp only [argT, Nat.reduceAdd, eB, eM, eWS]
  have g1 := h.a0
  have g2 := h.a1
  have g3 := h.s0
  have g4 := h.n0
  have g5 := h.n1
  have g6 := h.c1
  have g7 := h.row
  have g8 := h.c64
  have hbl := bytesOf_len (m := m) (w := w)
  refine ev_seq fun K1 h1 => ?_
  refine ev_rf mB ?_
  iterate 3 refine dr_act wN mb ma mc mT mR ?_
  refine dr_nil (h1 _ ?_); clear h1
  refine ev_seq fun K1 h1 => ?_
  refine ev_rf mB ?_
  iterate 2 refine dr_act wN mb ma mc mT mR ?_
  refine dr_callF wN mr mb mx mr (c185u m w h.fits) (Nat.le_of_ble_eq_true rfl) mv mT mN ?_
  refine dr_act wN mb ma mc mT mR ?_
  refine dr_nil (h1 _ ?_); clear h1
  refine ev_seq fun K1 h1 => ?_
  refine ev_reg mB ?_
  iterate 5 refine dr_act wN mb ma mc mT mR ?_
  refine dr_slo (a := n) (c := ((bytesOf m w).length : Int)) (off' := n.toNat) (len' := ((bytesOf m w).length) - n.toNat) wN mr mb ml mr mbn mbn mS (by omega) (by omega) mT ?_
  refine dr_app (g := cB) ([] : List Int) (cutL (bytesOf m w) n.toNat (((bytesOf m w).length) - n.toNat)) wN mr mb ml mr rfl ml (els_cut mr) mA (fun _ => rfl) (by first | omega | (simp only [cutL, List.length_append, List.length_cons, List.length_nil, List.length_take, List.length_drop]; omega)) mT mR ?_
  iterate 2 refine dr_act wN mb ma mc mT mR ?_
  refine dr_slo (a := 0) (c := n) (off' := 0) (len' := n.toNat) wN mr mb ml mr mbn mbn mS (by omega) (by omega) mT ?_
  refine dr_app (g := cB) (cutL (bytesOf m w) n.toNat (((bytesOf m w).length) - n.toNat)) (cutL (bytesOf m w) 0 n.toNat) wN mr mb ml mr rfl ml (els_cut mr) mA (fun _ => rfl) (by first | omega | (simp only [cutL, List.length_append, List.length_cons, List.length_nil, List.length_take, List.length_drop]; omega)) mT mR ?_
  refine dr_call wN mr mb mx (.cons (fN rfl) (.cons (fN rfl) (.cons (fN rfl) (.cons (.cell (fBr mr rfl)) .nil)))) (c106z m w ((cutL (bytesOf m w) n.toNat (((bytesOf m w).length) - n.toNat)) ++ (cutL (bytesOf m w) 0 n.toNat)) h (by first | omega | (simp only [cutL, List.length_append, List.length_take, List.length_drop]; omega))) (Nat.le_of_ble_eq_true rfl) mv mT mN ?_
  refine dr_act wN mb ma mc mT mR ?_
  refine dr_nil ⟨fun _ => by kernel_rfl, h1 _ ?_⟩; clear h1
  refine ev_ret ?_
  rw [tnM, ← cutL_tail (l := bytesOf m w) (i := n.toNat) (k := (bytesOf m w).length - n.toNat) (by omega), ← cutL_zero (l := bytesOf m w)]
  exact retL [144] (res' := [.cell 6 31]) mr (.cell nT mZ ma mc mP .nil) rfl mr (by decide) ⟨⟨mr, (pure_map fun _ => by first | rfl | simp [pcell])⟩, trivial⟩

theorem c209 (m : List (List Int)) (w : Win) (n : Int) (hl1 : m.length ≤ 1048576) (hl2 : ∀ r, r ∈ m → r.length ≤ 1048576) : Good Try.prog 209 [eMem m, eW w, vi n] (.tup [oM 0 (uM (tnO m w n)), vb (tnO m w n).isSome]) [rM (uM (tnO m w n))] := by
  refine good_of (E := En 24) (fn := Try.f209) (by kernel_rfl) (by kernel_rfl) rfl rfl (by simp only [List.length_cons, List.length_nil]; decide) (fun C0 => ?_)
  simp only [argT, Nat.reduceAdd, eB, eM, eWS]
  refine ev_seq fun K1 h1 => ?_
  refine ev_rf mB ?_
  iterate 4 refine dr_act wN mb ma mc mT mR ?_
  refine dr_nil (h1 _ ?_); clear h1
  refine ev_seq fun K1 h1 => ?_
  refine ev_seq fun K2 h2 => ?_
  refine ev_rf mB ?_
  iterate 2 refine dr_act wN mb ma mc mT mR ?_
  refine dr_callF wN mr mb mx mr (c144 m w mh mh) (Nat.le_of_ble_eq_true rfl) mv mT mN ?_
  iterate 2 refine dr_act wN mb ma mc mT mR ?_
  cases hc1 : (okW m w)
  · iterate 5 refine dr_skip wG mT ?_
    refine dr_act wN mb ma mc mT mR ?_
    refine dr_nil (h2 _ ?_); clear h2
    refine ev_cond true mlq (fun h => ?_) (fun h => by cases h)
    refine ev_seq fun K2 h2 => ?_
    refine ev_rf mB ?_
    iterate 3 refine dr_act wN mb ma mc mT mR ?_
    refine dr_nil (h2 _ ?_); clear h2
    refine ev_weak (weak_nil 16 0 0 29 1 mr mr mr mNl (by decide : 144 < 152)) ?_
    refine ev_ret ?_
    rw [show tnO m w n = none from by simp [tnO, *]]
    exact retL [144] (res' := [.cell 6 31, .tmp 7]) mr (.cell nT mZ ma mc mP (.tmp nT mL .nil)) rfl mr (by decide) ⟨⟨mr, rfl⟩, trivial⟩
  have hG := okW_GW hc1
  have g1 := hG.a0
  have g2 := hG.a1
  have g3 := hG.s0
  have g4 := hG.n0
  have g5 := hG.n1
  have g6 := hG.c1
  have g7 := hG.row
  have g8 := hG.c64
  iterate 3 refine dr_act wG mb ma mc mT mR ?_
  refine dr_callF wG mr mb mx mr (c133 n 0 w.n) (Nat.le_of_ble_eq_true rfl) mv mT mN ?_
  refine dr_act wG mb ma mc mT mR ?_
  refine dr_act wN mb ma mc mT mR ?_
  refine dr_nil (h2 _ ?_); clear h2
  cases hc2 : (decide (0 ≤ n ∧ n ≤ w.n))
  · have hc2 := of_decide_eq_false hc2
    refine ev_cond true mlq (fun h => ?_) (fun h => by cases h)
    refine ev_seq fun K2 h2 => ?_
    refine ev_rf mB ?_
    iterate 3 refine dr_act wN mb ma mc mT mR ?_
    refine dr_nil (h2 _ ?_); clear h2
    refine ev_weak (weak_nil 16 0 0 29 1 mr mr mr mNl (by decide : 144 < 152)) ?_
    refine ev_ret ?_
    rw [show tnO m w n = none from by simp [tnO, *]]
    exact retL [144] (res' := [.cell 6 31, .tmp 7]) mr (.cell nT mZ ma mc mP (.tmp nT mL .nil)) rfl mr (by decide) ⟨⟨mr, rfl⟩, trivial⟩
  have hc2 := of_decide_eq_true hc2
  refine ev_cond false mlq (fun h => by cases h) (fun h => ?_)
  refine ev_skip (h1 _ ?_); clear h1
  refine ev_seq fun K1 h1 => ?_
  refine ev_rf mB ?_
  iterate 3 refine dr_act wN mb ma mc mT mR ?_
  refine dr_callF wN mr mb mx mr (c215 m w n hG mh) (Nat.le_of_ble_eq_true rfl) mv mT mN ?_
  iterate 2 refine dr_act wN mb ma mc mT mR ?_
  refine dr_nil (h1 _ ?_); clear h1
  refine ev_ret ?_
  rw [show tnO m w n = some (tnM m w n) from by simp [tnO, *]]
  exact retL [144] (res' := [.cell 6 31, .tmp 7]) mr (.cell nT mZ ma mc mP (.tmp nT mL .nil)) rfl mr (by decide) ⟨⟨mr, (pure_map fun _ => by first | rfl | simp [pcell])⟩, trivial⟩

theorem c182 (m : List (List Int)) (w : Win) (n : Int) (hl1 : m.length ≤ 1048576) (hl2 : ∀ r, r ∈ m → r.length ≤ 1048576) : Good Try.prog 182 [eMem m, eW w, vi n] (.tup [oM 0 (uM (tnO m w n)), vb (tnO m w n).isSome]) [rM (uM (tnO m w n))] := by
  refine good_of (E := En 29) (fn := Try.f182) (by kernel_rfl) (by kernel_rfl) rfl rfl (by simp only [List.length_cons, List.length_nil]; decide) (fun C0 => ?_)
  simp only [argT, Nat.reduceAdd, eB, eM, eWS]
  refine ev_seq fun K1 h1 => ?_
  refine ev_rf mB ?_
  iterate 4 refine dr_act wN mb ma mc mT mR ?_
  refine dr_nil (h1 _ ?_); clear h1
  refine ev_seq fun K1 h1 => ?_
  refine ev_seq fun K2 h2 => ?_
  refine ev_rf mB ?_
  iterate 3 refine dr_act wN mb ma mc mT mR ?_
  refine dr_call wN mr mb mx (.cons (fN rfl) (.cons (.cell (fEls mr rfl rfl)) .nil)) (c146a m w mh mh) (Nat.le_of_ble_eq_true rfl) mv mT mN ?_
  iterate 2 refine dr_act wN mb ma mc mT mR ?_
  cases hc1 : (okW m w)
  · iterate 5 refine dr_skip wG mT ?_
    refine dr_act wN mb ma mc mT mR ?_
    refine dr_nil (h2 _ ?_); clear h2
    refine ev_cond true mlq (fun h => ?_) (fun h => by cases h)
    refine ev_seq fun K2 h2 => ?_
    refine ev_rf mB ?_
    iterate 3 refine dr_act wN mb ma mc mT mR ?_
    refine dr_nil (h2 _ ?_); clear h2
    refine ev_weak (weak_nil 16 0 0 29 1 mr mr mr mNl (by decide : 152 < 160)) ?_
    refine ev_ret ?_
    rw [show tnO m w n = none from by simp [tnO, *]]
    exact retL [152] (res' := [.cell 6 31, .tmp 7]) mr (.cell nT mZ ma mc mP (.tmp nT mL .nil)) rfl mr (by decide) ⟨⟨mr, rfl⟩, trivial⟩
  have hG := okW_GW hc1
  have g1 := hG.a0
  have g2 := hG.a1
  have g3 := hG.s0
  have g4 := hG.n0
  have g5 := hG.n1
  have g6 := hG.c1
  have g7 := hG.row
  have g8 := hG.c64
  iterate 3 refine dr_act wG mb ma mc mT mR ?_
  refine dr_callF wG mr mb mx mr (c123 n 0 w.n) (Nat.le_of_ble_eq_true rfl) mv mT mN ?_
  refine dr_act wG mb ma mc mT mR ?_
  refine dr_act wN mb ma mc mT mR ?_
  refine dr_nil (h2 _ ?_); clear h2
  cases hc2 : (decide (0 ≤ n ∧ n ≤ w.n))
  · have hc2 := of_decide_eq_false hc2
    refine ev_cond true mlq (fun h => ?_) (fun h => by cases h)
    refine ev_seq fun K2 h2 => ?_
    refine ev_rf mB ?_
    iterate 3 refine dr_act wN mb ma mc mT mR ?_
    refine dr_nil (h2 _ ?_); clear h2
    refine ev_weak (weak_nil 16 0 0 29 1 mr mr mr mNl (by decide : 152 < 160)) ?_
    refine ev_ret ?_
    rw [show tnO m w n = none from by simp [tnO, *]]
    exact retL [152] (res' := [.cell 6 31, .tmp 7]) mr (.cell nT mZ ma mc mP (.tmp nT mL .nil)) rfl mr (by decide) ⟨⟨mr, rfl⟩, trivial⟩
  have hc2 := of_decide_eq_true hc2
  refine ev_cond false mlq (fun h => by cases h) (fun h => ?_)
  refine ev_skip (h1 _ ?_); clear h1
  refine ev_seq fun K1 h1 => ?_
  refine ev_rf mB ?_
  refine dr_act wN mb ma mc mT mR ?_
  refine dr_callF wN mr mb mx mr (c127 m mh mh) (Nat.le_of_ble_eq_true rfl) mv mT mN ?_
  iterate 2 refine dr_act wN mb ma mc mT mR ?_
  refine dr_nil (h1 _ ?_); clear h1
  refine ev_seq fun K1 h1 => ?_
  refine ev_rf mB ?_
  iterate 3 refine dr_act wN mb ma mc mT mR ?_
  refine dr_callR [136] [] wN mr mb mx (c198 m w n hG mh) (.ren rfl rfl (.ren rfl rfl (.ren rfl rfl .nil))) ⟨⟨_, mr, rfl, rfl, rnMap (fun _ => rfl) _, okMM⟩, trivial⟩ ⟨⟨by decide, nz⟩, Nat.le_of_ble_eq_true rfl⟩ (v := .tup []) rfl mT mRR2 ?_
  refine dr_nil (h1 _ ?_); clear h1
  refine ev_seq fun K1 h1 => ?_
  refine ev_rf mB ?_
  iterate 3 refine dr_act wN mb ma mc mT mR ?_
  refine dr_nil (h1 _ ?_); clear h1
  refine ev_ret ?_
  rw [show tnO m w n = some (tnM m w n) from by simp [tnO, *]]
  simp only [oM, uM, Option.getD_some, tnM, wrM_len, Option.isSome_some]
  exact retL [136] (res' := [.cell 6 31, .tmp 7]) mr (.cell nT mZ ma mc mP (.tmp nT mL .nil)) rfl mr (by decide) ⟨⟨mr, (pure_map fun _ => by first | rfl | simp [pcell])⟩, trivial⟩

theorem c213 (m : List (List Int)) (a b : Win) (hl1 : m.length ≤ 1048576) (hl2 : ∀ r, r ∈ m → r.length ≤ 1048576) : Good Try.prog 213 [eMem m, eW a, eW b] (vb (okW m a && okW m b)) [] := by
  refine good_of (E := En 15) (fn := Try.f213) (by kernel_rfl) (by kernel_rfl) rfl rfl (by simp only [List.length_cons, List.length_nil]; decide) (fun C0 => ?_)
  simp only [argT, Nat.reduceAdd, eB, eM, eWS]
  refine ev_seq fun K1 h1 => ?_
  refine ev_rf mB ?_
  iterate 4 refine dr_act wN mb ma mc mT mR ?_
  refine dr_nil (h1 _ ?_); clear h1
  refine ev_cut ⟨[(6, vb ((okW m a) && (okW m b)))], [], 104⟩ ?_ ?_
  · refine ev_rf mB ?_
    iterate 2 refine dr_act wN mb ma mc mT mR ?_
    refine dr_callF wN mr mb mx mr (c144 m a mh mh) (Nat.le_of_ble_eq_true rfl) mv mT mN ?_
    refine dr_act wN mb ma mc mT mR ?_
    cases hc1 : (okW m a)
    · iterate 3 refine dr_skip wG mT ?_
      iterate 2 refine dr_act wN mb ma mc mT mR ?_
      refine dr_nil ?_
      exact weak_ren [] mK mK mD mQ
    iterate 2 refine dr_act wG mb ma mc mT mR ?_
    refine dr_callF wG mr mb mx mr (c144 m b mh mh) (Nat.le_of_ble_eq_true rfl) mv mT mN ?_
    iterate 2 refine dr_act wN mb ma mc mT mR ?_
    refine dr_nil ?_
    exact weak_ren [] mK mK mD mQ
  refine ev_ret ?_
  exact retT [6] (hv := (by simp [oneOf, *]))

theorem c214 (m : List (List Int)) (to fr : Win) (h : GW m to) (k : GW m fr) : Good Try.prog 214 [eMem m, eW to, eW fr] (.tup [oM 0 (cpM m to fr), vi (lst to.n fr.n)]) [rM (cpM m to fr)] := by
  refine good_of (E := En 23) (fn := Try.f214) (by kernel_rfl) (by kernel_rfl) rfl rfl (by simp only [List.length_cons, List.length_nil]; decide) (fun C0 => ?_)
  simp only [argT, Nat.reduceAdd, eB, eM, eWS]
  have g1 := h.a0
  have g2 := h.a1
  have g3 := h.s0
  have g4 := h.n0
  have g5 := h.n1
  have g6 := h.c1
  have g7 := h.row
  have g8 := h.c64
  have k4 := k.n0
  have hbl := bytesOf_len (m := m) (w := fr)
  have hls : 0 ≤ lst to.n fr.n ∧ lst to.n fr.n ≤ to.n ∧ lst to.n fr.n ≤ fr.n := by unfold lst; split <;> omega
  refine ev_seq fun K1 h1 => ?_
  refine ev_rf mB ?_
  iterate 5 refine dr_act wN mb ma mc mT mR ?_
  refine dr_nil (h1 _ ?_); clear h1
  refine ev_seq fun K1 h1 => ?_
  refine ev_rf mB ?_
  iterate 4 refine dr_act wN mb ma mc mT mR ?_
  refine dr_callF wN mr mb mx mr (c200u to.n fr.n) (Nat.le_of_ble_eq_true rfl) mv mT mN ?_
  refine dr_act wN mb ma mc mT mR ?_
  refine dr_nil (h1 _ ?_); clear h1
  refine ev_seq fun K1 h1 => ?_
  refine ev_reg mB ?_
  iterate 4 refine dr_act wN mb ma mc mT mR ?_
  refine dr_callF wN mr mb mx mr (c185u m fr k.fits) (Nat.le_of_ble_eq_true rfl) mv mT mN ?_
  refine dr_act wN mb ma mc mT mR ?_
  refine dr_slo (a := 0) (c := lst to.n fr.n) (off' := 0) (len' := (lst to.n fr.n).toNat) wN mr mb ml mr mbn mbn mS (by omega) (by omega) mT ?_
  refine dr_call wN mr mb mx (.cons (fN rfl) (.cons (fN rfl) (.cons (fN rfl) (.cons (.cell (fBr_c mr)) .nil)))) (c106z m to (cutL (bytesOf m fr) 0 ((lst to.n fr.n).toNat)) h (by first | omega | (simp only [cutL, List.length_append, List.length_take, List.length_drop]; omega))) (Nat.le_of_ble_eq_true rfl) mv mT mN ?_
  iterate 3 refine dr_act wN mb ma mc mT mR ?_
  refine dr_nil ⟨fun _ => by kernel_rfl, h1 _ ?_⟩; clear h1
  refine ev_ret ?_
  rw [cpM, ← cutL_zero (l := bytesOf m fr)]
  exact retL [144] (res' := [.cell 6 31, .tmp 7]) mr (.cell nT mZ ma mc mP (.tmp nT mL .nil)) rfl mr (by decide) ⟨⟨mr, (pure_map fun _ => by first | rfl | simp [pcell])⟩, trivial⟩

theorem c208 (m : List (List Int)) (to fr : Win) (hl1 : m.length ≤ 1048576) (hl2 : ∀ r, r ∈ m → r.length ≤ 1048576) : Good Try.prog 208 [eMem m, eW to, eW fr] (.tup [oM 0 ((cpO m to fr).getD ([], 0)).1, vi ((cpO m to fr).getD ([], 0)).2, vb (cpO m to fr).isSome]) [rM ((cpO m to fr).getD ([], 0)).1] := by
  refine good_of (E := En 26) (fn := Try.f208) (by kernel_rfl) (by kernel_rfl) rfl rfl (by simp only [List.length_cons, List.length_nil]; decide) (fun C0 => ?_)
  simp only [argT, Nat.reduceAdd, eB, eM, eWS]
  refine ev_seq fun K1 h1 => ?_
  refine ev_rf mB ?_
  iterate 6 refine dr_act wN mb ma mc mT mR ?_
  refine dr_nil (h1 _ ?_); clear h1
  refine ev_seq fun K1 h1 => ?_
  refine ev_seq fun K2 h2 => ?_
  refine ev_rf mB ?_
  iterate 3 refine dr_act wN mb ma mc mT mR ?_
  refine dr_callF wN mr mb mx mr (c213 m to fr mh mh) (Nat.le_of_ble_eq_true rfl) mv mT mN ?_
  refine dr_act wN mb ma mc mT mR ?_
  refine dr_nil (h2 _ ?_); clear h2
  cases hc1 : (okW m to && okW m fr)
  · have hq : ¬ (okW m to = true ∧ okW m fr = true) := by simpa using hc1
    refine ev_cond true mlq (fun h => ?_) (fun h => by cases h)
    refine ev_seq fun K2 h2 => ?_
    refine ev_rf mB ?_
    iterate 4 refine dr_act wN mb ma mc mT mR ?_
    refine dr_nil (h2 _ ?_); clear h2
    refine ev_weak (weak_nil 24 0 0 29 1 mr mr mr mNl (by decide : 120 < 128)) ?_
    refine ev_ret ?_
    rw [show cpO m to fr = none from by simp [cpO, *]]
    exact retL [120] (res' := [.cell 6 31, .tmp 7, .tmp 8]) mr (.cell nT mZ ma mc mP (.tmp nT mL (.tmp nT mL .nil))) rfl mr (by decide) ⟨⟨mr, rfl⟩, trivial⟩
  have hq : okW m to = true ∧ okW m fr = true := by simpa using hc1
  have hG := okW_GW hq.1
  have kG := okW_GW hq.2
  have k4 := kG.n0
  have g1 := hG.a0
  have g2 := hG.a1
  have g3 := hG.s0
  have g4 := hG.n0
  have g5 := hG.n1
  have g6 := hG.c1
  have g7 := hG.row
  have g8 := hG.c64
  refine ev_cond false mlq (fun h => by cases h) (fun h => ?_)
  refine ev_skip (h1 _ ?_); clear h1
  refine ev_seq fun K1 h1 => ?_
  refine ev_rf mB ?_
  iterate 3 refine dr_act wN mb ma mc mT mR ?_
  refine dr_callF wN mr mb mx mr (c214 m to fr hG kG) (Nat.le_of_ble_eq_true rfl) mv mT mN ?_
  iterate 6 refine dr_act wN mb ma mc mT mR ?_
  refine dr_nil (h1 _ ?_); clear h1
  refine ev_seq fun K1 h1 => ?_
  refine ev_rf mB ?_
  iterate 5 refine dr_act wN mb ma mc mT mR ?_
  refine dr_nil (h1 _ ?_); clear h1
  refine ev_ret ?_
  rw [show cpO m to fr = some (cpM m to fr, lst to.n fr.n) from by simp [cpO, *]]
  exact retL [112] (res' := [.cell 6 31, .tmp 7, .tmp 8]) mr (.cell nT mZ ma mc mP (.tmp nT mL (.tmp nT mL .nil))) rfl mr (by decide) ⟨⟨mr, (pure_map fun _ => by first | rfl | simp [pcell])⟩, trivial⟩
end Go.Ev
namespace Go.Ev
open Go Go.RowKit Go.Proofs

def abO (m : List (List Int)) (w : Win) (xs : List Int) : Option (List (List Int) × Win) := if okW m w = true then apM m w xs else none
theorem memO_some {m : List (List Int)} {o : Option (List (List Int) × Win)} (h : o.isSome = true) : memO m o = (uMW o).1 := by cases o with
  | none => cases h
  | some x => rfl
theorem uMW_none {o : Option (List (List Int) × Win)} (h : o.isSome = false) : o = none := by cases o with
  | none => rfl
  | some x => cases h

theorem c181 (m : List (List Int)) (to fr : Win) (hl1 : m.length ≤ 1048576) (hl2 : ∀ r, r ∈ m → r.length ≤ 1048576) : Good Try.prog 181 [eMem m, eW to, eW fr] (.tup [oM 0 ((cpO m to fr).getD ([], 0)).1, vi ((cpO m to fr).getD ([], 0)).2, vb (cpO m to fr).isSome]) [rM ((cpO m to fr).getD ([], 0)).1] := by
  refine good_of (E := En 27) (fn := Try.f181) (by kernel_rfl) (by kernel_rfl) rfl rfl (by simp only [List.length_cons, List.length_nil]; decide) (fun C0 => ?_)
  simp only [argT, Nat.reduceAdd, eB, eM, eWS]
  refine ev_seq fun K1 h1 => ?_
  refine ev_rf mB ?_
  iterate 6 refine dr_act wN mb ma mc mT mR ?_
  refine dr_nil (h1 _ ?_); clear h1
  refine ev_seq fun K1 h1 => ?_
  refine ev_seq fun K2 h2 => ?_
  refine ev_rf mB ?_
  iterate 4 refine dr_act wN mb ma mc mT mR ?_
  refine dr_call wN mr mb mx (.cons (fN rfl) (.cons (.cell (fEls mr rfl rfl)) .nil)) (c146b m to fr mh mh) (Nat.le_of_ble_eq_true rfl) mv mT mN ?_
  refine dr_act wN mb ma mc mT mR ?_
  refine dr_nil (h2 _ ?_); clear h2
  cases hc1 : (okW m to && okW m fr)
  · have hq : ¬ (okW m to = true ∧ okW m fr = true) := by simpa using hc1
    refine ev_cond true mlq (fun h => ?_) (fun h => by cases h)
    refine ev_seq fun K2 h2 => ?_
    refine ev_rf mB ?_
    iterate 4 refine dr_act wN mb ma mc mT mR ?_
    refine dr_nil (h2 _ ?_); clear h2
    refine ev_weak (weak_nil 24 0 0 29 1 mr mr mr mNl (by decide : 128 < 136)) ?_
    refine ev_ret ?_
    rw [show cpO m to fr = none from by simp [cpO, *]]
    exact retL [128] (res' := [.cell 6 31, .tmp 7, .tmp 8]) mr (.cell nT mZ ma mc mP (.tmp nT mL (.tmp nT mL .nil))) rfl mr (by decide) ⟨⟨mr, rfl⟩, trivial⟩
  have hq : okW m to = true ∧ okW m fr = true := by simpa using hc1
  have hG := okW_GW hq.1
  have kG := okW_GW hq.2
  have k4 := kG.n0
  have g1 := hG.a0
  have g2 := hG.a1
  have g3 := hG.s0
  have g4 := hG.n0
  have g5 := hG.n1
  have g6 := hG.c1
  have g7 := hG.row
  have g8 := hG.c64
  refine ev_cond false mlq (fun h => by cases h) (fun h => ?_)
  refine ev_skip (h1 _ ?_); clear h1
  refine ev_seq fun K1 h1 => ?_
  refine ev_rf mB ?_
  refine dr_act wN mb ma mc mT mR ?_
  refine dr_callF wN mr mb mx mr (c127 m mh mh) (Nat.le_of_ble_eq_true rfl) mv mT mN ?_
  iterate 2 refine dr_act wN mb ma mc mT mR ?_
  refine dr_nil (h1 _ ?_); clear h1
  refine ev_seq fun K1 h1 => ?_
  refine ev_reg mB ?_
  iterate 3 refine dr_act wN mb ma mc mT mR ?_
  refine dr_callR [104] [] wN mr mb mx (c107 m to hG.fits (wrap_of (by omega) (by omega))) (.ren rfl rfl (.ren rfl rfl .nil)) ⟨⟨_, mr, rfl, rfl, rnMap (fun _ => rfl) _, okMM⟩, trivial⟩ ⟨⟨by decide, nz⟩, Nat.le_of_ble_eq_true rfl⟩ (v := .ref (104, some (to.a.toNat, 0)) to.s.toNat to.n.toNat) rfl mT mRR2 ?_
  iterate 2 refine dr_act wN mb ma mc mT mR ?_
  refine dr_callR [] [] wN mr mb mx (c107f m fr kG) (.ren rfl rfl (.ren rfl rfl .nil)) trivial ⟨⟨by decide, nz⟩, Nat.le_of_ble_eq_true rfl⟩ (v := .list 1 ((bytesOf m fr).map cB)) rfl mT mRR2 ?_
  refine dr_cpx (k := (lst to.n fr.n).toNat) (bytesOf m fr) wN mr mb ml mr (by omega) mr mA (by rw [bytesOf_len]; unfold lst; split <;> omega) mT mR ?_
  rw [show (((lst to.n fr.n).toNat : Nat) : Int) = lst to.n fr.n from by unfold lst; split <;> omega]
  iterate 3 refine dr_act wN mb ma mc mT mR ?_
  refine dr_nil ⟨fun _ => by kernel_rfl, h1 _ ?_⟩; clear h1
  refine ev_ret ?_
  rw [show cpO m to fr = some (cpM m to fr, lst to.n fr.n) from by simp [cpO, *]]
  simp only [oM, Option.getD_some, cpM, wrM_len, Option.isSome_some]
  exact retL [104] (res' := [.cell 6 31, .tmp 7, .tmp 8]) mr (.cell nT mZ ma mc mP (.tmp nT mL (.tmp nT mL .nil))) rfl mr (by decide) ⟨⟨mr, (pure_map fun _ => by first | rfl | simp [pcell])⟩, trivial⟩

theorem c180 (m : List (List Int)) (w : Win) (xs : List Int) (hl1 : m.length ≤ 1048576) (hl2 : ∀ r, r ∈ m → r.length ≤ 1048576) (hx : xs.length ≤ 1048576) : Good Try.prog 180 [eMem m, eW w, eB xs] (.tup [oM 0 (uMW (abO m w xs)).1, eW (uMW (abO m w xs)).2, vb (abO m w xs).isSome]) [rM (uMW (abO m w xs)).1] := by
  refine good_of (E := En 33) (fn := Try.f180) (by kernel_rfl) (by kernel_rfl) rfl rfl (by simp only [List.length_cons, List.length_nil]; decide) (fun C0 => ?_)
  simp only [argT, Nat.reduceAdd, eB, eM, eWS]
  refine ev_seq fun K1 h1 => ?_
  refine ev_rf mB ?_
  iterate 5 refine dr_act wN mb ma mc mT mR ?_
  refine dr_nil (h1 _ ?_); clear h1
  refine ev_seq fun K1 h1 => ?_
  refine ev_seq fun K2 h2 => ?_
  refine ev_rf mB ?_
  iterate 3 refine dr_act wN mb ma mc mT mR ?_
  refine dr_call wN mr mb mx (.cons (fN rfl) (.cons (.cell (fEls mr rfl rfl)) .nil)) (c146a m w mh mh) (Nat.le_of_ble_eq_true rfl) mv mT mN ?_
  refine dr_act wN mb ma mc mT mR ?_
  refine dr_nil (h2 _ ?_); clear h2
  cases hc1 : (okW m w)
  · refine ev_cond true mlq (fun h => ?_) (fun h => by cases h)
    refine ev_seq fun K2 h2 => ?_
    refine ev_rf mB ?_
    iterate 5 refine dr_act wN mb ma mc mT mR ?_
    refine dr_nil (h2 _ ?_); clear h2
    refine ev_weak (weak_nil 16 0 0 29 1 mr mr mr mNl (by decide : 120 < 128)) ?_
    refine ev_ret ?_
    rw [show abO m w xs = none from by simp [abO, *]]
    exact retL [120] (res' := [.cell 6 31, .cell 7 32, .tmp 8]) mr (.cell nT mZ ma mc mP (.cell nT mZ ma mc mP (.tmp nT mL .nil))) rfl mr (by decide) ⟨⟨mr, rfl⟩, trivial⟩
  have hG := okW_GW hc1
  refine ev_cond false mlq (fun h => by cases h) (fun h => ?_)
  refine ev_skip (h1 _ ?_); clear h1
  refine ev_seq fun K1 h1 => ?_
  refine ev_rf mB ?_
  refine dr_act wN mb ma mc mT mR ?_
  refine dr_callF wN mr mb mx mr (c127 m mh mh) (Nat.le_of_ble_eq_true rfl) mv mT mN ?_
  iterate 2 refine dr_act wN mb ma mc mT mR ?_
  refine dr_nil (h1 _ ?_); clear h1
  refine ev_seq fun K1 h1 => ?_
  refine ev_rf mB ?_
  iterate 2 refine dr_act wN mb ma mc mT mR ?_
  refine dr_callR [96, 88] [] wN mr mb mx (c189u m w xs hG mh) (.ren rfl rfl (.ren rfl rfl (.ren rfl rfl .nil))) ⟨⟨_, rfl, rfl, rfl, rfl, rfl⟩, ⟨_, mr, rfl, rfl, rnMap (fun _ => rfl) _, okMM⟩, trivial⟩ ⟨⟨by decide, nz⟩, Nat.le_of_ble_eq_true rfl⟩ (v := .tup [.agg [vi (((uMW (apM m w xs)).2).a), vi (((uMW (apM m w xs)).2).s), vi (((uMW (apM m w xs)).2).n), vi (((uMW (apM m w xs)).2).c)], vb ((apM m w xs).isSome)]) rfl mT mRR2 ?_
  iterate 6 refine dr_act wN mb ma mc mT mR ?_
  refine dr_nil (h1 _ ?_); clear h1
  refine ev_seq fun K1 h1 => ?_
  refine ev_seq fun K2 h2 => ?_
  refine ev_rf mB ?_
  iterate 2 refine dr_act wN mb ma mc mT mR ?_
  refine dr_nil (h2 _ ?_); clear h2
  cases hc2 : ((apM m w xs).isSome)
  · refine ev_cond true mlq (fun h => ?_) (fun h => by cases h)
    refine ev_seq fun K2 h2 => ?_
    refine ev_rf mB ?_
    iterate 5 refine dr_act wN mb ma mc mT mR ?_
    refine dr_nil (h2 _ ?_); clear h2
    refine ev_weak (weak_nil 16 0 0 29 1 mr mr mr mNl (by decide : 240 < 248)) ?_
    refine ev_ret ?_
    rw [show abO m w xs = apM m w xs from by simp [abO, *]]
    rw [uMW_none (by assumption : (apM m w xs).isSome = false)]
    exact retL [240] (res' := [.cell 6 31, .cell 7 32, .tmp 8]) mr (.cell nT mZ ma mc mP (.cell nT mZ ma mc mP (.tmp nT mL .nil))) rfl mr (by decide) ⟨⟨mr, rfl⟩, trivial⟩
  refine ev_cond false mlq (fun h => by cases h) (fun h => ?_)
  refine ev_skip (h1 _ ?_); clear h1
  refine ev_seq fun K1 h1 => ?_
  refine ev_reg mB ?_
  iterate 5 refine dr_act wN mb ma mc mT mR ?_
  refine dr_nil ⟨fun _ => by kernel_rfl, h1 _ ?_⟩; clear h1
  refine ev_ret ?_
  rw [show abO m w xs = apM m w xs from by simp [abO, *]]
  rw [← memO_some (m := m) (by assumption : (apM m w xs).isSome = true), (by assumption : (apM m w xs).isSome = true)]
  exact retL [128] (res' := [.cell 6 31, .cell 7 32, .tmp 8]) mr (.cell nT mZ ma mc mP (.cell nT mZ ma mc mP (.tmp nT mL .nil))) rfl mr (by decide) ⟨⟨mr, (pure_map fun _ => by first | rfl | simp [pcell])⟩, trivial⟩
end Go.Ev
namespace Go.Ev
open Go Go.RowKit Go.Proofs

/-- A desk and a deal. -/
structure Dk where (m : List (List Int)) (ws : List Win) (k : Int)
abbrev eD (d : Dk) : V := .agg [eM d.m, eWS d.ws, vi d.k]
abbrev oD (n : Nat) (d : Dk) : V := .agg [.ref (n, none) 0 d.m.length, .ref (n + 1, none) 0 d.ws.length, vi d.k]
structure Dl where (t a b c : Int)
abbrev eDl (x : Dl) : V := .agg [vi x.t, vi x.a, vi x.b, vi x.c]
def plainD (x : Dl) : Bool := if x.t = 1 ∨ x.t = 3 ∨ x.t = 8 then x.b == 0 && x.c == 0 else if x.t = 5 ∨ x.t = 6 ∨ x.t = 7 then x.c == 0 else true
def szD (d : Dk) (k : Int) : Int := if szM d.m k < 0 then -1 else if szWS d.ws (szM d.m k) < 0 then -1 else szWS d.ws (szM d.m k)
abbrev qD (a b : Dk) : Bool := decide (a.m = b.m) && decide (a.ws = b.ws) && decide (a.k = b.k)
abbrev qDl (a b : Dl) : Bool := decide (a.t = b.t) && decide (a.a = b.a) && decide (a.b = b.b) && decide (a.c = b.c)
def hdD (d : Dk) (k : Int) : Int := if hdM d.m k < 0 then -1 else if hdW d.ws (hdM d.m k) < 0 then -1 else hdW d.ws (hdM d.m k)

theorem c171 (d : Dk) (i : Int) (hw : d.ws.length ≤ 1048576) : Good Try.prog 171 [eD d, vi i] (vb (decide (0 ≤ i ∧ i ≤ (d.ws.length : Int) - 1))) [] := by
  refine good_of (E := En 11) (fn := Try.f171) (by kernel_rfl) (by kernel_rfl) rfl rfl (by simp only [List.length_cons, List.length_nil]; decide) (fun C0 => ?_)
  simp only [argT, Nat.reduceAdd, eB, eM, eWS]
  refine ev_seq fun K1 h1 => ?_
  refine ev_rf mB ?_
  iterate 2 refine dr_act wN mb ma mc mT mR ?_
  refine dr_nil (h1 _ ?_); clear h1
  refine ev_seq fun K1 h1 => ?_
  refine ev_rf mB ?_
  iterate 5 refine dr_act wN mb ma mc mT mR ?_
  rw [wrap_of (x := (d.ws.length : Int) - 1) (by omega) (by omega)]
  refine dr_callF wN mr mb mx mr (c133 i 0 ((d.ws.length : Int) - 1)) (Nat.le_of_ble_eq_true rfl) mv mT mN ?_
  refine dr_act wN mb ma mc mT mR ?_
  refine dr_nil (h1 _ ?_); clear h1
  refine ev_ret ?_
  exact retT [4] (hv := rfl)

theorem c178 (n : Int) : Good Try.prog 178 [vi n] (vb (decide (0 ≤ n ∧ n ≤ 255))) [] := by
  refine good_of (E := En 5) (fn := Try.f178) (by kernel_rfl) (by kernel_rfl) rfl rfl (by simp only [List.length_cons, List.length_nil]; decide) (fun C0 => ?_)
  simp only [argT, Nat.reduceAdd, eB, eM, eWS]
  refine ev_seq fun K1 h1 => ?_
  refine ev_rf mB ?_
  refine dr_act wN mb ma mc mT mR ?_
  refine dr_nil (h1 _ ?_); clear h1
  refine ev_seq fun K1 h1 => ?_
  refine ev_rf mB ?_
  refine dr_act wN mb ma mc mT mR ?_
  refine dr_callF wN mr mb mx mr (c123 n 0 255) (Nat.le_of_ble_eq_true rfl) mv mT mN ?_
  refine dr_act wN mb ma mc mT mR ?_
  refine dr_nil (h1 _ ?_); clear h1
  refine ev_ret ?_
  exact retT [2] (hv := rfl)

theorem c168 (x : Dl) : Good Try.prog 168 [eDl x] (vb (plainD x)) [] := by
  refine good_of (E := En 24) (fn := Try.f168) (by kernel_rfl) (by kernel_rfl) rfl rfl (by simp only [List.length_cons, List.length_nil]; decide) (fun C0 => ?_)
  simp only [argT, Nat.reduceAdd, eB, eM, eWS]
  refine ev_seq fun K1 h1 => ?_
  refine ev_rf mB ?_
  iterate 2 refine dr_act wN mb ma mc mT mR ?_
  refine dr_nil (h1 _ ?_); clear h1
  refine ev_seq fun K1 h1 => ?_
  refine ev_seq fun K2 h2 => ?_
  refine ev_rf mB ?_
  iterate 2 refine dr_act wN mb ma mc mT mR ?_
  refine dr_nil (h2 _ ?_); clear h2
  refine ev_block ?_
  refine ev_seq fun K2 h2 => ?_
  refine ev_seq fun K3 h3 => ?_
  refine ev_rf mB ?_
  iterate 2 refine dr_act wN mb ma mc mT mR ?_
  refine dr_nil (h3 _ ?_); clear h3
  cases hc1 : (x.t == 1)
  rotate_left
  · have hc1 := eq_of_beq hc1
    refine ev_cond true mlq (fun h => ?_) (fun h => by cases h)
    refine ev_skip (h2 _ ?_); clear h2
    refine ev_cond true mlq (fun h => ?_) (fun h => by cases h)
    refine ev_cut ⟨[(2, vb ((x.b == 0) && (x.c == 0)))], [], 120⟩ ?_ ?_
    · refine ev_rf mB ?_
      iterate 4 refine dr_act wN mb ma mc mT mR ?_
      cases hc9 : (x.b == 0)
      · have hc9 := ne_of_beq_false hc9
        iterate 3 refine dr_skip wG mT ?_
        iterate 2 refine dr_act wN mb ma mc mT mR ?_
        refine dr_nil ?_
        exact weak_ren [] mK mK mD mQ
      have hc9 := eq_of_beq hc9
      iterate 3 refine dr_act wG mb ma mc mT mR ?_
      iterate 2 refine dr_act wN mb ma mc mT mR ?_
      refine dr_nil ?_
      exact weak_ren [] mK mK mD mQ
    refine ev_ret ?_
    exact retT [2] (hv := (by simp [plainD, oneOf, *]))
  have hc1 := ne_of_beq_false hc1
  refine ev_cond false mlq (fun h => by cases h) (fun h => ?_)
  refine ev_seq fun K3 h3 => ?_
  refine ev_rf mB ?_
  iterate 2 refine dr_act wN mb ma mc mT mR ?_
  refine dr_nil (h3 _ ?_); clear h3
  cases hc2 : (x.t == 3)
  rotate_left
  · have hc2 := eq_of_beq hc2
    refine ev_cond true mlq (fun h => ?_) (fun h => by cases h)
    refine ev_skip (h2 _ ?_); clear h2
    refine ev_cond true mlq (fun h => ?_) (fun h => by cases h)
    refine ev_cut ⟨[(2, vb ((x.b == 0) && (x.c == 0)))], [], 136⟩ ?_ ?_
    · refine ev_rf mB ?_
      iterate 4 refine dr_act wN mb ma mc mT mR ?_
      cases hc8 : (x.b == 0)
      · have hc8 := ne_of_beq_false hc8
        iterate 3 refine dr_skip wG mT ?_
        iterate 2 refine dr_act wN mb ma mc mT mR ?_
        refine dr_nil ?_
        exact weak_ren [] mK mK mD mQ
      have hc8 := eq_of_beq hc8
      iterate 3 refine dr_act wG mb ma mc mT mR ?_
      iterate 2 refine dr_act wN mb ma mc mT mR ?_
      refine dr_nil ?_
      exact weak_ren [] mK mK mD mQ
    refine ev_ret ?_
    exact retT [2] (hv := (by simp [plainD, oneOf, *]))
  have hc2 := ne_of_beq_false hc2
  refine ev_cond false mlq (fun h => by cases h) (fun h => ?_)
  refine ev_rf mB ?_
  iterate 2 refine dr_act wN mb ma mc mT mR ?_
  refine dr_nil (h2 _ ?_); clear h2
  cases hc3 : (x.t == 8)
  rotate_left
  · have hc3 := eq_of_beq hc3
    refine ev_cond true mlq (fun h => ?_) (fun h => by cases h)
    refine ev_cut ⟨[(2, vb ((x.b == 0) && (x.c == 0)))], [], 152⟩ ?_ ?_
    · refine ev_rf mB ?_
      iterate 4 refine dr_act wN mb ma mc mT mR ?_
      cases hc7 : (x.b == 0)
      · have hc7 := ne_of_beq_false hc7
        iterate 3 refine dr_skip wG mT ?_
        iterate 2 refine dr_act wN mb ma mc mT mR ?_
        refine dr_nil ?_
        exact weak_ren [] mK mK mD mQ
      have hc7 := eq_of_beq hc7
      iterate 3 refine dr_act wG mb ma mc mT mR ?_
      iterate 2 refine dr_act wN mb ma mc mT mR ?_
      refine dr_nil ?_
      exact weak_ren [] mK mK mD mQ
    refine ev_ret ?_
    exact retT [2] (hv := (by simp [plainD, oneOf, *]))
  have hc3 := ne_of_beq_false hc3
  refine ev_cond false mlq (fun h => by cases h) (fun h => ?_)
  refine ev_seq fun K2 h2 => ?_
  refine ev_seq fun K3 h3 => ?_
  refine ev_rf mB ?_
  iterate 2 refine dr_act wN mb ma mc mT mR ?_
  refine dr_nil (h3 _ ?_); clear h3
  cases hc4 : (x.t == 5)
  rotate_left
  · have hc4 := eq_of_beq hc4
    refine ev_cond true mlq (fun h => ?_) (fun h => by cases h)
    refine ev_skip (h2 _ ?_); clear h2
    refine ev_cond true mlq (fun h => ?_) (fun h => by cases h)
    refine ev_seq fun K2 h2 => ?_
    refine ev_rf mB ?_
    iterate 4 refine dr_act wN mb ma mc mT mR ?_
    refine dr_nil (h2 _ ?_); clear h2
    refine ev_ret ?_
    exact retT [2] (hv := (by simp [plainD, oneOf, *]))
  have hc4 := ne_of_beq_false hc4
  refine ev_cond false mlq (fun h => by cases h) (fun h => ?_)
  refine ev_seq fun K3 h3 => ?_
  refine ev_rf mB ?_
  iterate 2 refine dr_act wN mb ma mc mT mR ?_
  refine dr_nil (h3 _ ?_); clear h3
  cases hc5 : (x.t == 6)
  rotate_left
  · have hc5 := eq_of_beq hc5
    refine ev_cond true mlq (fun h => ?_) (fun h => by cases h)
    refine ev_skip (h2 _ ?_); clear h2
    refine ev_cond true mlq (fun h => ?_) (fun h => by cases h)
    refine ev_seq fun K2 h2 => ?_
    refine ev_rf mB ?_
    iterate 4 refine dr_act wN mb ma mc mT mR ?_
    refine dr_nil (h2 _ ?_); clear h2
    refine ev_ret ?_
    exact retT [2] (hv := (by simp [plainD, oneOf, *]))
  have hc5 := ne_of_beq_false hc5
  refine ev_cond false mlq (fun h => by cases h) (fun h => ?_)
  refine ev_rf mB ?_
  iterate 2 refine dr_act wN mb ma mc mT mR ?_
  refine dr_nil (h2 _ ?_); clear h2
  cases hc6 : (x.t == 7)
  rotate_left
  · have hc6 := eq_of_beq hc6
    refine ev_cond true mlq (fun h => ?_) (fun h => by cases h)
    refine ev_seq fun K2 h2 => ?_
    refine ev_rf mB ?_
    iterate 4 refine dr_act wN mb ma mc mT mR ?_
    refine dr_nil (h2 _ ?_); clear h2
    refine ev_ret ?_
    exact retT [2] (hv := (by simp [plainD, oneOf, *]))
  have hc6 := ne_of_beq_false hc6
  refine ev_cond false mlq (fun h => by cases h) (fun h => ?_)
  refine ev_skip (h1 _ ?_); clear h1
  refine ev_seq fun K1 h1 => ?_
  refine ev_rf mB ?_
  refine dr_act wN mb ma mc mT mR ?_
  refine dr_nil (h1 _ ?_); clear h1
  refine ev_ret ?_
  exact retT [2] (hv := (by simp [plainD, oneOf, *]))

theorem c69 (d : Dk) (k : Int) (hl : Len d.m) (hw : d.ws.length ≤ maxLen) (h0 : 0 ≤ k ∧ k ≤ 1048576) : Good Try.prog 69 [eD d, vi k] (vi (szD d k)) [] := by
  refine good_of (E := En 18) (fn := Try.f69) (by kernel_rfl) (by kernel_rfl) rfl rfl (by simp only [List.length_cons, List.length_nil]; decide) (fun C0 => ?_)
  simp only [argT, Nat.reduceAdd, eB, eM, eWS]
  refine ev_seq fun K1 h1 => ?_
  refine ev_rf mB ?_
  iterate 2 refine dr_act wN mb ma mc mT mR ?_
  refine dr_nil (h1 _ ?_); clear h1
  refine ev_seq fun K1 h1 => ?_
  refine ev_rf mB ?_
  iterate 3 refine dr_act wN mb ma mc mT mR ?_
  refine dr_callF wN mr mb mx mr (c55 d.m k mh mh) (Nat.le_of_ble_eq_true rfl) mv mT mN ?_
  refine dr_act wN mb ma mc mT mR ?_
  refine dr_nil (h1 _ ?_); clear h1
  refine ev_seq fun K1 h1 => ?_
  refine ev_seq fun K2 h2 => ?_
  refine ev_rf mB ?_
  iterate 2 refine dr_act wN mb ma mc mT mR ?_
  refine dr_nil (h2 _ ?_); clear h2
  cases hc1 : (decide ((szM d.m k) < 0))
  rotate_left
  · have hc1 := of_decide_eq_true hc1
    refine ev_cond true mlq (fun h => ?_) (fun h => by cases h)
    refine ev_seq fun K2 h2 => ?_
    refine ev_rf mB ?_
    refine dr_act wN mb ma mc mT mR ?_
    refine dr_nil (h2 _ ?_); clear h2
    refine ev_ret ?_
    exact retT [4] (hv := (by simp [szD, oneOf, *] <;> omega))
  have hc1 := of_decide_eq_false hc1
  refine ev_cond false mlq (fun h => by cases h) (fun h => ?_)
  refine ev_skip (h1 _ ?_); clear h1
  refine ev_seq fun K1 h1 => ?_
  refine ev_rf mB ?_
  iterate 3 refine dr_act wN mb ma mc mT mR ?_
  refine dr_callF wN mr mb mx mr (c114 d.ws (szM d.m k) mh (by have := szM_le d.m k h0.1; omega)) (Nat.le_of_ble_eq_true rfl) mv mT mN ?_
  refine dr_act wN mb ma mc mT mR ?_
  refine dr_nil (h1 _ ?_); clear h1
  refine ev_seq fun K1 h1 => ?_
  refine ev_seq fun K2 h2 => ?_
  refine ev_rf mB ?_
  iterate 2 refine dr_act wN mb ma mc mT mR ?_
  refine dr_nil (h2 _ ?_); clear h2
  cases hc2 : (decide ((szWS d.ws (szM d.m k)) < 0))
  rotate_left
  · have hc2 := of_decide_eq_true hc2
    refine ev_cond true mlq (fun h => ?_) (fun h => by cases h)
    refine ev_seq fun K2 h2 => ?_
    refine ev_rf mB ?_
    refine dr_act wN mb ma mc mT mR ?_
    refine dr_nil (h2 _ ?_); clear h2
    refine ev_ret ?_
    exact retT [4] (hv := (by simp [szD, oneOf, *] <;> omega))
  have hc2 := of_decide_eq_false hc2
  refine ev_cond false mlq (fun h => by cases h) (fun h => ?_)
  refine ev_skip (h1 _ ?_); clear h1
  refine ev_seq fun K1 h1 => ?_
  refine ev_rf mB ?_
  iterate 2 refine dr_act wN mb ma mc mT mR ?_
  refine dr_nil (h1 _ ?_); clear h1
  refine ev_ret ?_
  exact retT [4] (hv := (by simp [szD, oneOf, *] <;> omega))

theorem c71 (d : Dk) (hl1 : d.m.length ≤ 1048576) (hl2 : ∀ r, r ∈ d.m → r.length ≤ 1048576) (hw : d.ws.length ≤ 1048576) : Good Try.prog 71 [eD d] (oD 0 d) [rM d.m, rWS d.ws] := by
  refine good_of (E := En 16) (fn := Try.f71) (by kernel_rfl) (by kernel_rfl) rfl rfl (by simp only [List.length_cons, List.length_nil]; decide) (fun C0 => ?_)
  simp only [argT, Nat.reduceAdd, eB, eM, eWS]
  refine ev_seq fun K1 h1 => ?_
  refine ev_rf mB ?_
  iterate 2 refine dr_act wN mb ma mc mT mR ?_
  refine dr_nil (h1 _ ?_); clear h1
  refine ev_seq fun K1 h1 => ?_
  refine ev_rf mB ?_
  refine dr_act wN mb ma mc mT mR ?_
  refine dr_nil (h1 _ ?_); clear h1
  refine ev_seq fun K1 h1 => ?_
  refine ev_rf mB ?_
  iterate 2 refine dr_act wN mb ma mc mT mR ?_
  refine dr_callF wN mr mb mx mr (c58 d.m mh mh) (Nat.le_of_ble_eq_true rfl) mv mT mN ?_
  iterate 2 refine dr_act wN mb ma mc mT mR ?_
  refine dr_nil (h1 _ ?_); clear h1
  refine ev_seq fun K1 h1 => ?_
  refine ev_rf mB ?_
  iterate 2 refine dr_act wN mb ma mc mT mR ?_
  refine dr_callF wN mr mb mx mr (c121 d.ws mh) (Nat.le_of_ble_eq_true rfl) mv mT mN ?_
  iterate 2 refine dr_act wN mb ma mc mT mR ?_
  refine dr_nil (h1 _ ?_); clear h1
  refine ev_seq fun K1 h1 => ?_
  refine ev_rf mB ?_
  iterate 4 refine dr_act wN mb ma mc mT mR ?_
  refine dr_nil (h1 _ ?_); clear h1
  refine ev_seq fun K1 h1 => ?_
  refine ev_rf mB ?_
  iterate 2 refine dr_act wN mb ma mc mT mR ?_
  refine dr_nil (h1 _ ?_); clear h1
  refine ev_ret ?_
  exact retL [40, 80] (res' := [.cell 2 116]) mr (.cell nT mZ ma mc mP .nil) rfl mr (by decide) ⟨⟨mr, (pure_map fun _ => by first | rfl | simp [pcell])⟩, ⟨mr, (pure_map fun _ => by first | rfl | simp [pcell])⟩, trivial⟩

theorem c72 (x : Dl) : Good Try.prog 72 [eDl x] (eDl x) [] := by
  refine good_of (E := En 17) (fn := Try.f72) (by kernel_rfl) (by kernel_rfl) rfl rfl (by simp only [List.length_cons, List.length_nil]; decide) (fun C0 => ?_)
  simp only [argT, Nat.reduceAdd, eB, eM, eWS]
  refine ev_seq fun K1 h1 => ?_
  refine ev_rf mB ?_
  iterate 2 refine dr_act wN mb ma mc mT mR ?_
  refine dr_nil (h1 _ ?_); clear h1
  refine ev_seq fun K1 h1 => ?_
  refine ev_rf mB ?_
  refine dr_act wN mb ma mc mT mR ?_
  refine dr_nil (h1 _ ?_); clear h1
  refine ev_seq fun K1 h1 => ?_
  refine ev_rf mB ?_
  iterate 4 refine dr_act wN mb ma mc mT mR ?_
  refine dr_nil (h1 _ ?_); clear h1
  refine ev_seq fun K1 h1 => ?_
  refine ev_rf mB ?_
  iterate 4 refine dr_act wN mb ma mc mT mR ?_
  refine dr_nil (h1 _ ?_); clear h1
  refine ev_seq fun K1 h1 => ?_
  refine ev_rf mB ?_
  iterate 4 refine dr_act wN mb ma mc mT mR ?_
  refine dr_nil (h1 _ ?_); clear h1
  refine ev_seq fun K1 h1 => ?_
  refine ev_rf mB ?_
  iterate 4 refine dr_act wN mb ma mc mT mR ?_
  refine dr_nil (h1 _ ?_); clear h1
  refine ev_seq fun K1 h1 => ?_
  refine ev_rf mB ?_
  iterate 2 refine dr_act wN mb ma mc mT mR ?_
  refine dr_nil (h1 _ ?_); clear h1
  refine ev_ret ?_
  exact retL [] (res' := [.cell 2 120]) mr (.cell nT mZ ma mc mP .nil) rfl mr (by decide) trivial

theorem c74 (a b : Dk) (hl : Len a.m) (hw : a.ws.length ≤ maxLen) : Good Try.prog 74 [eD a, eD b] (vb (qD a b)) [] := by
  refine good_of (E := En 22) (fn := Try.f74) (by kernel_rfl) (by kernel_rfl) rfl rfl (by simp only [List.length_cons, List.length_nil]; decide) (fun C0 => ?_)
  simp only [argT, Nat.reduceAdd, eB, eM, eWS]
  refine ev_seq fun K1 h1 => ?_
  refine ev_rf mB ?_
  iterate 3 refine dr_act wN mb ma mc mT mR ?_
  refine dr_nil (h1 _ ?_); clear h1
  refine ev_seq fun K1 h1 => ?_
  refine ev_seq fun K2 h2 => ?_
  refine ev_rf mB ?_
  iterate 4 refine dr_act wN mb ma mc mT mR ?_
  refine dr_callF wN mr mb mx mr (c61 a.m b.m mh) (Nat.le_of_ble_eq_true rfl) mv mT mN ?_
  refine dr_act wN mb ma mc mT mR ?_
  refine dr_nil (h2 _ ?_); clear h2
  cases hc1 : (decide (a.m = b.m))
  · have hc1 := of_decide_eq_false hc1
    refine ev_cond true mlq (fun h => ?_) (fun h => by cases h)
    refine ev_seq fun K2 h2 => ?_
    refine ev_rf mB ?_
    refine dr_act wN mb ma mc mT mR ?_
    refine dr_nil (h2 _ ?_); clear h2
    refine ev_ret ?_
    exact retT [4] (hv := (by simp [qD, oneOf, *]))
  have hc1 := of_decide_eq_true hc1
  refine ev_cond false mlq (fun h => by cases h) (fun h => ?_)
  refine ev_skip (h1 _ ?_); clear h1
  refine ev_seq fun K1 h1 => ?_
  refine ev_seq fun K2 h2 => ?_
  refine ev_rf mB ?_
  iterate 4 refine dr_act wN mb ma mc mT mR ?_
  refine dr_callF wN mr mb mx mr (c50 a.ws b.ws mh) (Nat.le_of_ble_eq_true rfl) mv mT mN ?_
  refine dr_act wN mb ma mc mT mR ?_
  refine dr_nil (h2 _ ?_); clear h2
  cases hc2 : (decide (a.ws = b.ws))
  · have hc2 := of_decide_eq_false hc2
    refine ev_cond true mlq (fun h => ?_) (fun h => by cases h)
    refine ev_seq fun K2 h2 => ?_
    refine ev_rf mB ?_
    refine dr_act wN mb ma mc mT mR ?_
    refine dr_nil (h2 _ ?_); clear h2
    refine ev_ret ?_
    exact retT [4] (hv := (by simp [qD, oneOf, *]))
  have hc2 := of_decide_eq_true hc2
  refine ev_cond false mlq (fun h => by cases h) (fun h => ?_)
  refine ev_skip (h1 _ ?_); clear h1
  refine ev_seq fun K1 h1 => ?_
  refine ev_seq fun K2 h2 => ?_
  refine ev_rf mB ?_
  iterate 5 refine dr_act wN mb ma mc mT mR ?_
  refine dr_nil (h2 _ ?_); clear h2
  cases hc3 : (a.k != b.k)
  rotate_left
  · have hc3 := bne_iff_ne.1 hc3
    refine ev_cond true mlq (fun h => ?_) (fun h => by cases h)
    refine ev_seq fun K2 h2 => ?_
    refine ev_rf mB ?_
    refine dr_act wN mb ma mc mT mR ?_
    refine dr_nil (h2 _ ?_); clear h2
    refine ev_ret ?_
    exact retT [4] (hv := (by simp [qD, oneOf, *]))
  have hc3 := eq_of_bneF hc3
  refine ev_cond false mlq (fun h => by cases h) (fun h => ?_)
  refine ev_skip (h1 _ ?_); clear h1
  refine ev_seq fun K1 h1 => ?_
  refine ev_rf mB ?_
  refine dr_act wN mb ma mc mT mR ?_
  refine dr_nil (h1 _ ?_); clear h1
  refine ev_ret ?_
  exact retT [4] (hv := (by simp [qD, oneOf, *]))

theorem c143 (a b : Dl) : Good Try.prog 143 [eDl a, eDl b] (vb (qDl a b)) [] := by
  refine good_of (E := En 25) (fn := Try.f143) (by kernel_rfl) (by kernel_rfl) rfl rfl (by simp only [List.length_cons, List.length_nil]; decide) (fun C0 => ?_)
  simp only [argT, Nat.reduceAdd, eB, eM, eWS]
  refine ev_seq fun K1 h1 => ?_
  refine ev_rf mB ?_
  iterate 3 refine dr_act wN mb ma mc mT mR ?_
  refine dr_nil (h1 _ ?_); clear h1
  refine ev_seq fun K1 h1 => ?_
  refine ev_seq fun K2 h2 => ?_
  refine ev_rf mB ?_
  iterate 5 refine dr_act wN mb ma mc mT mR ?_
  refine dr_nil (h2 _ ?_); clear h2
  cases hc1 : (a.t != b.t)
  rotate_left
  · have hc1 := bne_iff_ne.1 hc1
    refine ev_cond true mlq (fun h => ?_) (fun h => by cases h)
    refine ev_seq fun K2 h2 => ?_
    refine ev_rf mB ?_
    refine dr_act wN mb ma mc mT mR ?_
    refine dr_nil (h2 _ ?_); clear h2
    refine ev_ret ?_
    exact retT [4] (hv := (by simp [qDl, oneOf, *]))
  have hc1 := eq_of_bneF hc1
  refine ev_cond false mlq (fun h => by cases h) (fun h => ?_)
  refine ev_skip (h1 _ ?_); clear h1
  refine ev_seq fun K1 h1 => ?_
  refine ev_seq fun K2 h2 => ?_
  refine ev_rf mB ?_
  iterate 5 refine dr_act wN mb ma mc mT mR ?_
  refine dr_nil (h2 _ ?_); clear h2
  cases hc2 : (a.a != b.a)
  rotate_left
  · have hc2 := bne_iff_ne.1 hc2
    refine ev_cond true mlq (fun h => ?_) (fun h => by cases h)
    refine ev_seq fun K2 h2 => ?_
    refine ev_rf mB ?_
    refine dr_act wN mb ma mc mT mR ?_
    refine dr_nil (h2 _ ?_); clear h2
    refine ev_ret ?_
    exact retT [4] (hv := (by simp [qDl, oneOf, *]))
  have hc2 := eq_of_bneF hc2
  refine ev_cond false mlq (fun h => by cases h) (fun h => ?_)
  refine ev_skip (h1 _ ?_); clear h1
  refine ev_seq fun K1 h1 => ?_
  refine ev_seq fun K2 h2 => ?_
  refine ev_rf mB ?_
  iterate 5 refine dr_act wN mb ma mc mT mR ?_
  refine dr_nil (h2 _ ?_); clear h2
  cases hc3 : (a.b != b.b)
  rotate_left
  · have hc3 := bne_iff_ne.1 hc3
    refine ev_cond true mlq (fun h => ?_) (fun h => by cases h)
    refine ev_seq fun K2 h2 => ?_
    refine ev_rf mB ?_
    refine dr_act wN mb ma mc mT mR ?_
    refine dr_nil (h2 _ ?_); clear h2
    refine ev_ret ?_
    exact retT [4] (hv := (by simp [qDl, oneOf, *]))
  have hc3 := eq_of_bneF hc3
  refine ev_cond false mlq (fun h => by cases h) (fun h => ?_)
  refine ev_skip (h1 _ ?_); clear h1
  refine ev_seq fun K1 h1 => ?_
  refine ev_seq fun K2 h2 => ?_
  refine ev_rf mB ?_
  iterate 5 refine dr_act wN mb ma mc mT mR ?_
  refine dr_nil (h2 _ ?_); clear h2
  cases hc4 : (a.c != b.c)
  rotate_left
  · have hc4 := bne_iff_ne.1 hc4
    refine ev_cond true mlq (fun h => ?_) (fun h => by cases h)
    refine ev_seq fun K2 h2 => ?_
    refine ev_rf mB ?_
    refine dr_act wN mb ma mc mT mR ?_
    refine dr_nil (h2 _ ?_); clear h2
    refine ev_ret ?_
    exact retT [4] (hv := (by simp [qDl, oneOf, *]))
  have hc4 := eq_of_bneF hc4
  refine ev_cond false mlq (fun h => by cases h) (fun h => ?_)
  refine ev_skip (h1 _ ?_); clear h1
  refine ev_seq fun K1 h1 => ?_
  refine ev_rf mB ?_
  refine dr_act wN mb ma mc mT mR ?_
  refine dr_nil (h1 _ ?_); clear h1
  refine ev_ret ?_
  exact retT [4] (hv := (by simp [qDl, oneOf, *]))

theorem c75 (d : Dk) (k : Int) (hl : d.m.length ≤ 1048576) (hw : d.ws.length ≤ 1048576) (hk : 0 ≤ k) (hk2 : k + tot d.m ≤ 4000000) : GoodR Try.prog 75 [oD 0 d, vi k] [rM d.m, rWS d.ws] (vi (k + tot d.m + 4 * (d.ws.length : Nat))) [some (rM (mkM k d.m)), some (rWS (mkW (k + tot d.m) d.ws.length))] := by
  refine goodR_of (E := En 14 2) (fn := Try.f75) (by kernel_rfl) (by kernel_rfl) rfl rfl (by simp only [List.length_cons, List.length_nil]; decide) ⟨rfl, by simp only [List.length_cons, List.length_nil]; decide⟩ rfl ⟨(okMap (fun _ => by first | rfl | simp [okC]) _), ⟨(okMap (fun _ => by first | rfl | simp [okC]) _), trivial⟩⟩ (fun C0 => ?_)
  simp only [argT, rsT, Nat.reduceAdd, List.length_cons, List.length_nil, eB, eM, eWS]
  refine ev_seq fun K1 h1 => ?_
  refine ev_rf mB ?_
  iterate 2 refine dr_act wN mb ma mc mT mR ?_
  refine dr_nil (h1 _ ?_); clear h1
  refine ev_seq fun K1 h1 => ?_
  refine ev_rf mB ?_
  iterate 3 refine dr_act wN mb ma mc mT mR ?_
  refine dr_callR [0] [] wN mr mb mx (c63 d.m k mh mh mh) (.ren rfl rfl (.frz (fN rfl) .nil)) ⟨⟨_, mr, rfl, rfl, rnMap (fun _ => rfl) _, okMM⟩, trivial⟩ ⟨⟨by decide, nz⟩, Nat.le_of_ble_eq_true rfl⟩ (v := vi (k + tot d.m)) rfl mT mRR ?_
  refine dr_act wN mb ma mc mT mR ?_
  refine dr_nil (h1 _ ?_); clear h1
  refine ev_seq fun K1 h1 => ?_
  refine ev_rf mB ?_
  iterate 3 refine dr_act wN mb ma mc mT mR ?_
  refine dr_callR [1] [] wN mr mb mx (c53 d.ws (k + tot d.m) mh mh mh) (.ren rfl rfl (.frz (fN rfl) .nil)) ⟨⟨_, mr, rfl, rfl, rnMap (fun _ => rfl) _, okMap (fun _ => rfl) _⟩, trivial⟩ ⟨⟨by decide, nz⟩, Nat.le_of_ble_eq_true rfl⟩ (v := vi ((k + tot d.m) + 4 * (d.ws.length : Nat))) rfl mT mRR ?_
  refine dr_act wN mb ma mc mT mR ?_
  refine dr_nil (h1 _ ?_); clear h1
  refine ev_seq fun K1 h1 => ?_
  refine ev_rf mB ?_
  iterate 2 refine dr_act wN mb ma mc mT mR ?_
  refine dr_nil (h1 _ ?_); clear h1
  refine ev_ret ?_
  exact retLR [] (res' := [.tmp 4]) mr (.tmp nT mL .nil) rfl ⟨by decide, by decide⟩ rfl ⟨⟨_, mr, rfl, rfl, rnMap (fun _ => rfl) _⟩, ⟨_, mr, rfl, rfl, rnMap (fun _ => rfl) _⟩, trivial⟩

theorem c76 (d : Dk) (k : Int) (hk : 0 ≤ k) (hk2 : k + tot d.m ≤ 4000000) (hl : d.m.length ≤ 1048576) (hw : d.ws.length ≤ 1048576) : Good Try.prog 76 [eD d, vi k] (vi (hdD d k)) [] := by
  refine good_of (E := En 18) (fn := Try.f76) (by kernel_rfl) (by kernel_rfl) rfl rfl (by simp only [List.length_cons, List.length_nil]; decide) (fun C0 => ?_)
  simp only [argT, Nat.reduceAdd, eB, eM, eWS]
  refine ev_seq fun K1 h1 => ?_
  refine ev_rf mB ?_
  iterate 2 refine dr_act wN mb ma mc mT mR ?_
  refine dr_nil (h1 _ ?_); clear h1
  refine ev_seq fun K1 h1 => ?_
  refine ev_rf mB ?_
  iterate 3 refine dr_act wN mb ma mc mT mR ?_
  refine dr_callF wN mr mb mx mr (c65 d.m k mh mh mh) (Nat.le_of_ble_eq_true rfl) mv mT mN ?_
  refine dr_act wN mb ma mc mT mR ?_
  refine dr_nil (h1 _ ?_); clear h1
  refine ev_seq fun K1 h1 => ?_
  refine ev_seq fun K2 h2 => ?_
  refine ev_rf mB ?_
  iterate 2 refine dr_act wN mb ma mc mT mR ?_
  refine dr_nil (h2 _ ?_); clear h2
  cases hc1 : (decide ((hdM d.m k) < 0))
  rotate_left
  · have hc1 := of_decide_eq_true hc1
    refine ev_cond true mlq (fun h => ?_) (fun h => by cases h)
    refine ev_seq fun K2 h2 => ?_
    refine ev_rf mB ?_
    refine dr_act wN mb ma mc mT mR ?_
    refine dr_nil (h2 _ ?_); clear h2
    refine ev_ret ?_
    exact retT [4] (hv := (by simp [hdD, hdW, oneOf, *] <;> omega))
  have hc1 := of_decide_eq_false hc1
  refine ev_cond false mlq (fun h => by cases h) (fun h => ?_)
  refine ev_skip (h1 _ ?_); clear h1
  refine ev_seq fun K1 h1 => ?_
  refine ev_rf mB ?_
  iterate 3 refine dr_act wN mb ma mc mT mR ?_
  refine dr_callF wN mr mb mx mr (c54 d.ws (hdM d.m k) mh mh (by unfold hdM; split <;> omega)) (Nat.le_of_ble_eq_true rfl) mv mT mN ?_
  refine dr_act wN mb ma mc mT mR ?_
  refine dr_nil (h1 _ ?_); clear h1
  refine ev_seq fun K1 h1 => ?_
  refine ev_seq fun K2 h2 => ?_
  refine ev_rf mB ?_
  iterate 2 refine dr_act wN mb ma mc mT mR ?_
  refine dr_nil (h2 _ ?_); clear h2
  cases hc2 : (decide ((if d.ws = mkW (hdM d.m k) d.ws.length then (hdM d.m k) + 4 * (d.ws.length : Nat) else -1) < 0))
  rotate_left
  · have hc2 := of_decide_eq_true hc2
    refine ev_cond true mlq (fun h => ?_) (fun h => by cases h)
    refine ev_seq fun K2 h2 => ?_
    refine ev_rf mB ?_
    refine dr_act wN mb ma mc mT mR ?_
    refine dr_nil (h2 _ ?_); clear h2
    refine ev_ret ?_
    exact retT [4] (hv := (by simp [hdD, hdW, oneOf, *] <;> omega))
  have hc2 := of_decide_eq_false hc2
  refine ev_cond false mlq (fun h => by cases h) (fun h => ?_)
  refine ev_skip (h1 _ ?_); clear h1
  refine ev_seq fun K1 h1 => ?_
  refine ev_rf mB ?_
  iterate 2 refine dr_act wN mb ma mc mT mR ?_
  refine dr_nil (h1 _ ?_); clear h1
  refine ev_ret ?_
  exact retT [4] (hv := (by simp [hdD, hdW, oneOf, *] <;> omega))
end Go.Ev
namespace Go.Ev
open Go Go.RowKit Go.Proofs

theorem okR_bad {m : List (List Int)} {ws : List Win} {i : Nat} (h : okW m (ws.getD i wz) = false) (hi : i < ws.length) : oneOf [vb false] = vb (okR m ws) := by
  have e : ws.all (okW m) = false := Bool.eq_false_iff.2 fun e => by
    have := List.all_eq_true.1 e _ (mem_w hi)
    rw [h] at this; cases this
  rw [okR, e, Bool.and_false]; rfl
def okD (d : Dk) : Bool := okR d.m d.ws && decide ((d.ws.length : Int) ≤ 8) && decide (0 ≤ d.k ∧ d.k ≤ 1000)

theorem c167 (m : List (List Int)) (ws : List Win) (hl1 : m.length ≤ 1048576) (hl2 : ∀ r, r ∈ m → r.length ≤ 1048576) (hw : ws.length ≤ 1048576) : Good Try.prog 167 [eMem m, eWS ws] (vb (okR m ws)) [] := by
  refine good_of (E := En 30) (fn := Try.f167) (by kernel_rfl) (by kernel_rfl) rfl rfl (by simp only [List.length_cons, List.length_nil]; decide) (fun C0 => ?_)
  simp only [argT, Nat.reduceAdd, eB, eM, eWS]
  refine ev_seq fun K1 h1 => ?_
  refine ev_rf mB ?_
  iterate 2 refine dr_act wN mb ma mc mT mR ?_
  refine dr_nil (h1 _ ?_); clear h1
  refine ev_seq fun K1 h1 => ?_
  refine ev_seq fun K2 h2 => ?_
  refine ev_rf mB ?_
  refine dr_act wN mb ma mc mT mR ?_
  refine dr_nil (h2 _ ?_); clear h2
  refine ev_block (ev_loop (α := {p : Nat // p ≤ ws.length ∧ p ≤ 13 ∧ (ws.take p).all (okW m) = true}) (fun p => ⟨[(1, .list 4 (ws.map cW)), (2, .ptr (0, none) 0 0), (4, vb false), (5, vi (p.1 : Int))], [(0, ⟨31, 1, [[.list 1 (m.map cM)]]⟩)], 24⟩) (fun p => ws.length - p.1) ⟨0, ⟨Nat.zero_le _, by omega, rfl⟩⟩ (weak_ren [] mK mK mD mQ) (fun ⟨i, hinv⟩ => ?_))
  dsimp only
  obtain ⟨hi, h13, ht⟩ := hinv
  refine ev_seq fun K2 h2 => ?_
  refine ev_seq fun K3 h3 => ?_
  refine ev_rf mB ?_
  iterate 5 refine dr_act wN mb ma mc mT mR ?_
  cases hc1 : (decide ((i : Int) < (ws.length : Int)))
  · have hc1 := of_decide_eq_false hc1
    iterate 2 refine dr_skip wG mT ?_
    refine dr_act wN mb ma mc mT mR ?_
    refine dr_nil (h3 _ ?_); clear h3
    refine ev_cond false mlq (fun h => by cases h) (fun h => ?_)
    refine ev_exit ?_
    simp only [seqK, loopK, blkK, Nat.reduceEqDiff, ↓reduceIte]
    refine h1 _ ?_; clear h1
    have hA : ws.all (okW m) = true ∨ ¬ ((ws.length : Int) ≤ 12) := by
      by_cases hq : i = ws.length
      · left; rw [hq, List.take_length] at ht; exact ht
      · right; omega
    refine ev_cut ⟨[(4, vb ((okM m) && (decide ((ws.length : Int) ≤ 12))))], [], 152⟩ ?_ ?_
    · refine ev_rf mB ?_
      refine dr_act wN mb ma mc mT mR ?_
      refine dr_callF wN mr mb mx mr (c164 m mh) (Nat.le_of_ble_eq_true rfl) mv mT mN ?_
      refine dr_act wN mb ma mc mT mR ?_
      cases hc2 : (okM m)
      · iterate 3 refine dr_skip wG mT ?_
        iterate 2 refine dr_act wN mb ma mc mT mR ?_
        refine dr_nil ?_
        exact weak_ren [] mK mK mD mQ
      iterate 3 refine dr_act wG mb ma mc mT mR ?_
      iterate 2 refine dr_act wN mb ma mc mT mR ?_
      refine dr_nil ?_
      exact weak_ren [] mK mK mD mQ
    refine ev_ret ?_
    exact retT [4] (hv := (by first | (rcases hA with hA | hA <;> simp [okR, oneOf, *]; done) | exact okR_bad (by assumption) (by omega)))
  have hc1 := of_decide_eq_true hc1
  iterate 2 refine dr_act wG mb ma mc mT mR ?_
  refine dr_act wN mb ma mc mT mR ?_
  refine dr_nil (h3 _ ?_); clear h3
  cases hc3 : (decide ((i : Int) ≤ 12))
  · have hc3 := of_decide_eq_false hc3
    refine ev_cond false mlq (fun h => by cases h) (fun h => ?_)
    refine ev_exit ?_
    simp only [seqK, loopK, blkK, Nat.reduceEqDiff, ↓reduceIte]
    refine h1 _ ?_; clear h1
    have hA : ws.all (okW m) = true ∨ ¬ ((ws.length : Int) ≤ 12) := by
      by_cases hq : i = ws.length
      · left; rw [hq, List.take_length] at ht; exact ht
      · right; omega
    refine ev_cut ⟨[(4, vb ((okM m) && (decide ((ws.length : Int) ≤ 12))))], [], 152⟩ ?_ ?_
    · refine ev_rf mB ?_
      refine dr_act wN mb ma mc mT mR ?_
      refine dr_callF wN mr mb mx mr (c164 m mh) (Nat.le_of_ble_eq_true rfl) mv mT mN ?_
      refine dr_act wN mb ma mc mT mR ?_
      cases hc4 : (okM m)
      · iterate 3 refine dr_skip wG mT ?_
        iterate 2 refine dr_act wN mb ma mc mT mR ?_
        refine dr_nil ?_
        exact weak_ren [] mK mK mD mQ
      iterate 3 refine dr_act wG mb ma mc mT mR ?_
      iterate 2 refine dr_act wN mb ma mc mT mR ?_
      refine dr_nil ?_
      exact weak_ren [] mK mK mD mQ
    refine ev_ret ?_
    exact retT [4] (hv := (by first | (rcases hA with hA | hA <;> simp [okR, oneOf, *]; done) | exact okR_bad (by assumption) (by omega)))
  have hc3 := of_decide_eq_true hc3
  refine ev_cond true mlq (fun h => ?_) (fun h => by cases h)
  refine ev_skip (h2 _ ?_); clear h2
  refine ev_seq fun K2 h2 => ?_
  refine ev_block ?_
  refine ev_seq fun K3 h3 => ?_
  refine ev_reg mB ?_
  iterate 3 refine dr_act wN mb ma mc mT mR ?_
  refine dr_ix (wz : Win) wN mr mb ml ml mS (by omega) mT ?_
  rw [Int.toNat_natCast]
  refine dr_act wN mb ma mc mT mR ?_
  refine dr_callF wN mr mb mx mr (c144 m (ws.getD i wz) mh mh) (Nat.le_of_ble_eq_true rfl) mv mT mN ?_
  refine dr_act wN mb ma mc mT mR ?_
  refine dr_nil ⟨fun _ => by kernel_rfl, h3 _ ?_⟩; clear h3
  cases hc5 : (okW m (ws.getD i wz))
  · refine ev_cond true mlq (fun h => ?_) (fun h => by cases h)
    refine ev_seq fun K3 h3 => ?_
    refine ev_rf mB ?_
    refine dr_act wN mb ma mc mT mR ?_
    refine dr_nil (h3 _ ?_); clear h3
    refine ev_ret ?_
    exact retT [4] (hv := (by first | (rcases hA with hA | hA <;> simp [okR, oneOf, *]; done) | exact okR_bad (by assumption) (by omega)))
  refine ev_cond false mlq (fun h => by cases h) (fun h => ?_)
  refine ev_skip (h2 _ ?_); clear h2
  refine ev_rf mB ?_
  iterate 2 refine dr_act wN mb ma mc mT mR ?_
  rw [wrap_of (x := (i : Int) + 1) (by omega) (by omega)]
  refine dr_act wN mb ma mc mT mR ?_
  refine dr_nil ?_
  refine ⟨⟨i + 1, by omega, by omega, all_step ht (by assumption) (by omega)⟩, by dsimp only; omega, ?_⟩
  exact weak_ren [] mK mK mD mQ

theorem c137 (d : Dk) (hl1 : d.m.length ≤ 1048576) (hl2 : ∀ r, r ∈ d.m → r.length ≤ 1048576) (hw : d.ws.length ≤ 1048576) : Good Try.prog 137 [eD d] (vb (okD d)) [] := by
  refine good_of (E := En 19) (fn := Try.f137) (by kernel_rfl) (by kernel_rfl) rfl rfl (by simp only [List.length_cons, List.length_nil]; decide) (fun C0 => ?_)
  simp only [argT, Nat.reduceAdd, eB, eM, eWS]
  refine ev_seq fun K1 h1 => ?_
  refine ev_rf mB ?_
  iterate 2 refine dr_act wN mb ma mc mT mR ?_
  refine dr_nil (h1 _ ?_); clear h1
  refine ev_cut ⟨[(2, vb ((okR d.m d.ws) && ((decide ((d.ws.length : Int) ≤ 8)) && (decide (0 ≤ d.k ∧ d.k ≤ 1000)))))], [], 152⟩ ?_ ?_
  · refine ev_rf mB ?_
    iterate 4 refine dr_act wN mb ma mc mT mR ?_
    refine dr_callF wN mr mb mx mr (c167 d.m d.ws mh mh mh) (Nat.le_of_ble_eq_true rfl) mv mT mN ?_
    refine dr_act wN mb ma mc mT mR ?_
    cases hc1 : (okR d.m d.ws)
    · iterate 4 refine dr_skip wG mT ?_
      iterate 2 refine dr_act wN mb ma mc mT mR ?_
      iterate 3 refine dr_skip wG mT ?_
      iterate 2 refine dr_act wN mb ma mc mT mR ?_
      refine dr_nil ?_
      exact weak_ren [] mK mK mD mQ
    iterate 4 refine dr_act wG mb ma mc mT mR ?_
    iterate 2 refine dr_act wN mb ma mc mT mR ?_
    cases hc2 : (decide ((d.ws.length : Int) ≤ 8))
    · have hc2 := of_decide_eq_false hc2
      iterate 3 refine dr_skip wG mT ?_
      iterate 2 refine dr_act wN mb ma mc mT mR ?_
      refine dr_nil ?_
      exact weak_ren [] mK mK mD mQ
    have hc2 := of_decide_eq_true hc2
    iterate 2 refine dr_act wG mb ma mc mT mR ?_
    refine dr_callF wG mr mb mx mr (c133 d.k 0 1000) (Nat.le_of_ble_eq_true rfl) mv mT mN ?_
    iterate 2 refine dr_act wN mb ma mc mT mR ?_
    refine dr_nil ?_
    exact weak_ren [] mK mK mD mQ
  refine ev_ret ?_
  exact retT [2] (hv := (by simp [okD, oneOf, Bool.and_assoc, *]))
end Go.Ev
namespace Go.Ev
open Go Go.RowKit Go.Proofs

abbrev eI (xs : List Int) : V := .list 1 (xs.map cI)
theorem c158u (m : List (List Int)) (xs : List Int) (n : Int) (hl : m.length ≤ 1048576) (hr : ∀ r, r ∈ m → r.length ≤ 1048576) (hx : xs.length ≤ 1048576) :
    Good Try.prog 158 [eMem m, eB xs, vi n] (.tup [oM 0 (m ++ [xs]), eW ⟨(m.length : Nat), 0, n, (xs.length : Nat)⟩]) [rM (m ++ [xs])] := by
  exact c158 m xs n hl hr hx
def isOnlyD (x : Dl) : Bool := bif x.t != 1 && (x.t != 3 && x.t != 8) then x.t == 2 || (x.t == 4 || x.c == 0) else x.b == 0 && (x.t == 2 || (x.t == 4 || x.c == 0))
def allIn (xs : List Int) (a b : Int) : Bool := xs.all fun x => decide (a ≤ x ∧ x ≤ b)
theorem allIn_bad {xs : List Int} {a b : Int} {i : Nat} (h : ¬ (a ≤ xs.getD i 0 ∧ xs.getD i 0 ≤ b)) (hi : i < xs.length) : oneOf [vb false] = vb (allIn xs a b) := by
  have e : allIn xs a b = false := Bool.eq_false_iff.2 fun e => by
    have := List.all_eq_true.1 e (xs.getD i 0) (by rw [List.getD_eq_getElem?_getD, List.getElem?_eq_getElem hi]; exact List.getElem_mem hi)
    exact h (of_decide_eq_true this)
  rw [e]; rfl

theorem c169 (m : List (List Int)) (n : Int) (hl1 : m.length ≤ 1048576) (hl2 : ∀ r, r ∈ m → r.length ≤ 1048576) : Good Try.prog 169 [eMem m, vi n] (.tup [oM 0 (uMW (nwM m n)).1, eW (uMW (nwM m n)).2, vb (nwM m n).isSome]) [rM (uMW (nwM m n)).1] := by
  refine good_of (E := En 35) (fn := Try.f169) (by kernel_rfl) (by kernel_rfl) rfl rfl (by simp only [List.length_cons, List.length_nil]; decide) (fun C0 => ?_)
  simp only [argT, Nat.reduceAdd, eB, eM, eWS]
  refine ev_seq fun K1 h1 => ?_
  refine ev_rf mB ?_
  iterate 4 refine dr_act wN mb ma mc mT mR ?_
  refine dr_nil (h1 _ ?_); clear h1
  refine ev_seq fun K1 h1 => ?_
  refine ev_seq fun K2 h2 => ?_
  refine ev_rf mB ?_
  refine dr_act wN mb ma mc mT mR ?_
  refine dr_callF wN mr mb mx mr (c164 m mh) (Nat.le_of_ble_eq_true rfl) mv mT mN ?_
  iterate 2 refine dr_act wN mb ma mc mT mR ?_
  cases hc1 : (okM m)
  · iterate 3 refine dr_skip wG mT ?_
    iterate 2 refine dr_act wN mb ma mc mT mR ?_
    iterate 4 refine dr_skip wG mT ?_
    refine dr_act wN mb ma mc mT mR ?_
    refine dr_nil (h2 _ ?_); clear h2
    refine ev_cond true mlq (fun hz => ?_) (fun hz => by cases hz)
    refine ev_seq fun K2 h2 => ?_
    refine ev_rf mB ?_
    iterate 5 refine dr_act wN mb ma mc mT mR ?_
    refine dr_nil (h2 _ ?_); clear h2
    refine ev_weak (weak_nil 8 0 0 29 1 mr mr mr mNl (by decide : 184 < 192)) ?_
    refine ev_ret ?_
    rw [show nwM m n = none from by simp [nwM, *]]
    exact retL [184] (res' := [.cell 4 31, .cell 5 32, .tmp 6]) mr (.cell nT mZ ma mc mP (.cell nT mZ ma mc mP (.tmp nT mL .nil))) rfl mr (by decide) ⟨⟨mr, rfl⟩, trivial⟩
  refine dr_act wG mb ma mc mT mR ?_
  refine dr_callF wG mr mb mx mr (c133 n 1 64) (Nat.le_of_ble_eq_true rfl) mv mT mN ?_
  refine dr_act wG mb ma mc mT mR ?_
  iterate 2 refine dr_act wN mb ma mc mT mR ?_
  cases hc2 : (decide (1 ≤ n ∧ n ≤ 64))
  · have hc2 := of_decide_eq_false hc2
    iterate 4 refine dr_skip wG mT ?_
    refine dr_act wN mb ma mc mT mR ?_
    refine dr_nil (h2 _ ?_); clear h2
    refine ev_cond true mlq (fun hz => ?_) (fun hz => by cases hz)
    refine ev_seq fun K2 h2 => ?_
    refine ev_rf mB ?_
    iterate 5 refine dr_act wN mb ma mc mT mR ?_
    refine dr_nil (h2 _ ?_); clear h2
    refine ev_weak (weak_nil 8 0 0 29 1 mr mr mr mNl (by decide : 184 < 192)) ?_
    refine ev_ret ?_
    rw [show nwM m n = none from by simp [nwM, *]]
    exact retL [184] (res' := [.cell 4 31, .cell 5 32, .tmp 6]) mr (.cell nT mZ ma mc mP (.cell nT mZ ma mc mP (.tmp nT mL .nil))) rfl mr (by decide) ⟨⟨mr, rfl⟩, trivial⟩
  have hc2 := of_decide_eq_true hc2
  iterate 4 refine dr_act wG mb ma mc mT mR ?_
  refine dr_act wN mb ma mc mT mR ?_
  refine dr_nil (h2 _ ?_); clear h2
  cases hc3 : ((m.length : Int) == 16)
  rotate_left
  · have hc3 := eq_of_beq hc3
    have q3 : m.length = 16 := by omega
    refine ev_cond true mlq (fun hz => ?_) (fun hz => by cases hz)
    refine ev_seq fun K2 h2 => ?_
    refine ev_rf mB ?_
    iterate 5 refine dr_act wN mb ma mc mT mR ?_
    refine dr_nil (h2 _ ?_); clear h2
    refine ev_weak (weak_nil 8 0 0 29 1 mr mr mr mNl (by decide : 184 < 192)) ?_
    refine ev_ret ?_
    rw [show nwM m n = none from by simp [nwM, *]]
    exact retL [184] (res' := [.cell 4 31, .cell 5 32, .tmp 6]) mr (.cell nT mZ ma mc mP (.cell nT mZ ma mc mP (.tmp nT mL .nil))) rfl mr (by decide) ⟨⟨mr, rfl⟩, trivial⟩
  have hc3 := ne_of_beq_false hc3
  have q3 : ¬ m.length = 16 := by omega
  have hG := okM_GM (by assumption : okM m = true)
  have q4 := hG.l
  refine ev_cond false mlq (fun hz => by cases hz) (fun hz => ?_)
  refine ev_skip (h1 _ ?_); clear h1
  refine ev_seq fun K1 h1 => ?_
  refine ev_reg mB ?_
  iterate 2 refine dr_act wN mb ma mc mT mR ?_
  refine dr_mk cB 0 (nn := n.toNat) wN mr mb ⟨ml, ml⟩ mA (by omega) mA mr mT mR ?_
  refine dr_act wN mb ma mc mT mR ?_
  refine dr_call wN mr mb mx (.cons (fN rfl) (.cons (.cell (fBr mr (by simp only [List.length_set, List.length_replicate, wrM_len]))) (.cons (fN rfl) .nil))) (c158u m (List.replicate n.toNat 0) n mh mh (by rw [List.length_replicate]; omega)) (Nat.le_of_ble_eq_true rfl) mv mT mN ?_
  iterate 7 refine dr_act wN mb ma mc mT mR ?_
  refine dr_nil ⟨fun _ => by kernel_rfl, h1 _ ?_⟩; clear h1
  refine ev_seq fun K1 h1 => ?_
  refine ev_reg mB ?_
  iterate 5 refine dr_act wN mb ma mc mT mR ?_
  refine dr_nil ⟨fun _ => by kernel_rfl, h1 _ ?_⟩; clear h1
  refine ev_ret ?_
  rw [show nwM m n = some (m ++ [List.replicate n.toNat 0], ⟨(m.length : Nat), 0, n, n⟩) from by simp [nwM, *]]
  simp only [uMW, Option.getD_some, List.length_replicate, Option.isSome_some]
  rw [show ((n.toNat : Nat) : Int) = n from by omega]
  exact retL [176] (res' := [.cell 4 31, .cell 5 32, .tmp 6]) mr (.cell nT mZ ma mc mP (.cell nT mZ ma mc mP (.tmp nT mL .nil))) rfl mr (by decide) ⟨⟨mr, (pure_map fun _ => by first | rfl | simp [pcell])⟩, trivial⟩

theorem c190 (xs : List Int) (a b : Int) (hl : xs.length ≤ 1048576) : Good Try.prog 190 [eI xs, vi a, vi b] (vb (allIn xs a b)) [] := by
  refine good_of (E := En 21) (fn := Try.f190) (by kernel_rfl) (by kernel_rfl) rfl rfl (by simp only [List.length_cons, List.length_nil]; decide) (fun C0 => ?_)
  simp only [argT, Nat.reduceAdd, eB, eM, eWS]
  refine ev_seq fun K1 h1 => ?_
  refine ev_rf mB ?_
  refine dr_act wN mb ma mc mT mR ?_
  refine dr_nil (h1 _ ?_); clear h1
  refine ev_seq fun K1 h1 => ?_
  refine ev_seq fun K2 h2 => ?_
  refine ev_rf mB ?_
  iterate 3 refine dr_act wN mb ma mc mT mR ?_
  refine dr_nil (h2 _ ?_); clear h2
  refine ev_block (ev_loop (α := {p : Nat // p ≤ xs.length ∧ (xs.take p).all (fun x => decide (a ≤ x ∧ x ≤ b)) = true}) (fun p => ⟨[(1, vi a), (2, vi b), (6, vb false), (9, .list 1 (xs.map cI)), (10, vi (xs.length : Int)), (11, vi (p.1 : Int))], [], 32⟩) (fun p => xs.length - p.1) ⟨0, Nat.zero_le _, rfl⟩ (weak_ren [] mK mK mD mQ) (fun ⟨i, hinv⟩ => ?_))
  dsimp only
  obtain ⟨hi, ht⟩ := hinv
  refine ev_seq fun K2 h2 => ?_
  refine ev_rf mB ?_
  refine dr_act wN mb ma mc mT mR ?_
  refine dr_nil (h2 _ ?_); clear h2
  refine ev_seq fun K2 h2 => ?_
  cases hc1 : (decide ((i : Int) < (xs.length : Int)))
  · have hc1 := of_decide_eq_false hc1
    refine ev_cond false mlq (fun hz => by cases hz) (fun hz => ?_)
    refine ev_exit ?_
    simp only [seqK, loopK, blkK, Nat.reduceEqDiff, ↓reduceIte]
    refine h1 _ ?_; clear h1
    have hA : allIn xs a b = true := by
      rw [allIn, ← List.take_length (l := xs), show xs.length = i from by omega]; exact ht
    refine ev_seq fun K1 h1 => ?_
    refine ev_rf mB ?_
    refine dr_act wN mb ma mc mT mR ?_
    refine dr_nil (h1 _ ?_); clear h1
    refine ev_ret ?_
    exact retT [6] (hv := (by first | (rw [hA]; rfl) | exact allIn_bad (by assumption) (by omega)))
  have hc1 := of_decide_eq_true hc1
  refine ev_cond true mlq (fun hz => ?_) (fun hz => by cases hz)
  refine ev_skip (h2 _ ?_); clear h2
  refine ev_seq fun K2 h2 => ?_
  refine ev_block ?_
  refine ev_seq fun K3 h3 => ?_
  refine ev_rf mB ?_
  refine dr_ix (0 : Int) wN mr mb ml ml mS (by omega) mT ?_
  rw [Int.toNat_natCast]
  iterate 2 refine dr_act wN mb ma mc mT mR ?_
  refine dr_nil (h3 _ ?_); clear h3
  refine ev_seq fun K3 h3 => ?_
  refine ev_rf mB ?_
  iterate 3 refine dr_act wN mb ma mc mT mR ?_
  refine dr_callF wN mr mb mx mr (c123 (xs.getD i (0 : Int)) a b) (Nat.le_of_ble_eq_true rfl) mv mT mN ?_
  refine dr_act wN mb ma mc mT mR ?_
  refine dr_nil (h3 _ ?_); clear h3
  cases hc2 : (decide (a ≤ (xs.getD i (0 : Int)) ∧ (xs.getD i (0 : Int)) ≤ b))
  · have hc2 := of_decide_eq_false hc2
    refine ev_cond true mlq (fun hz => ?_) (fun hz => by cases hz)
    refine ev_seq fun K3 h3 => ?_
    refine ev_rf mB ?_
    refine dr_act wN mb ma mc mT mR ?_
    refine dr_nil (h3 _ ?_); clear h3
    refine ev_ret ?_
    exact retT [6] (hv := (by first | (rw [hA]; rfl) | exact allIn_bad (by assumption) (by omega)))
  have hc2 := of_decide_eq_true hc2
  refine ev_cond false mlq (fun hz => by cases hz) (fun hz => ?_)
  refine ev_skip (h2 _ ?_); clear h2
  refine ev_rf mB ?_
  refine dr_act wN mb ma mc mT mR ?_
  rw [wrap_of (x := (i : Int) + 1) (by omega) (by omega)]
  refine dr_act wN mb ma mc mT mR ?_
  refine dr_nil ?_
  refine ⟨⟨i + 1, by omega, all_step ht (decide_eq_true (by assumption)) (by omega)⟩, by dsimp only; omega, ?_⟩
  exact weak_ren [] mK mK mD mQ
end Go.Ev
namespace Go.Ev
open Go Go.RowKit Go.Proofs

theorem c175 (d : Dk) (xs : List Int) (hx : xs.length ≤ 1048576) (hw : d.ws.length ≤ 1048576) : Good Try.prog 175 [eD d, eI xs] (vb (allIn xs 0 ((d.ws.length : Int) - 1))) [] := by
  refine good_of (E := En 11) (fn := Try.f175) (by kernel_rfl) (by kernel_rfl) rfl rfl (by simp only [List.length_cons, List.length_nil]; decide) (fun C0 => ?_)
  simp only [argT, Nat.reduceAdd, eB, eM, eWS]
  refine ev_seq fun K1 h1 => ?_
  refine ev_rf mB ?_
  iterate 2 refine dr_act wN mb ma mc mT mR ?_
  refine dr_nil (h1 _ ?_); clear h1
  refine ev_seq fun K1 h1 => ?_
  refine ev_rf mB ?_
  iterate 5 refine dr_act wN mb ma mc mT mR ?_
  rw [wrap_of (x := (d.ws.length : Int) - 1) (by omega) (by omega)]
  refine dr_callF wN mr mb mx mr (c190 xs 0 ((d.ws.length : Int) - 1) mh) (Nat.le_of_ble_eq_true rfl) mv mT mN ?_
  refine dr_act wN mb ma mc mT mR ?_
  refine dr_nil (h1 _ ?_); clear h1
  refine ev_ret ?_
  exact retT [4] (hv := rfl)

theorem c175a (d : Dk) (a : Int) (hw : d.ws.length ≤ 1048576) : Good Try.prog 175 [eD d, .list 1 ([a].map cI)] (vb (decide (0 ≤ a ∧ a ≤ (d.ws.length : Int) - 1))) [] := by
  have h := c175 d [a] (by simp) hw
  rw [show allIn [a] 0 ((d.ws.length : Int) - 1) = decide (0 ≤ a ∧ a ≤ (d.ws.length : Int) - 1) from by simp [allIn]] at h
  exact h
theorem okD_eq {d : Dk} : okD d = (okM d.m && (d.ws.all (okW d.m) && (decide ((d.ws.length : Int) ≤ 8) && decide (0 ≤ d.k ∧ d.k ≤ 1000)))) := by
  unfold okD okR
  by_cases h8 : (d.ws.length : Int) ≤ 8
  · rw [decide_eq_true h8, decide_eq_true (show (d.ws.length : Int) ≤ 12 by omega)]; simp [Bool.and_assoc]
  · rw [decide_eq_false h8]; simp
theorem oD_app {d : Dk} {w : Win} : (d.ws ++ [w]).length = d.ws.length + 1 := by simp
theorem isOnly_plain (x : Dl) (h : x.t = 1 ∨ x.t = 2 ∨ x.t = 3 ∨ x.t = 4 ∨ x.t = 5 ∨ x.t = 6 ∨ x.t = 7 ∨ x.t = 8) : isOnlyD x = plainD x := by
  rcases h with h | h | h | h | h | h | h | h <;> simp [isOnlyD, plainD, h]
theorem cutL_tail' {α : Type} {l : List α} {i k : Nat} (h : l.length ≤ i + k) : cutL l i k = l.drop i := by rw [cutL, List.take_of_length_le (by rw [List.length_drop]; omega)]
theorem del_eq {ws : List Win} {i j : Int} (h : 0 ≤ i ∧ i < j ∧ j ≤ ws.length) : ws.take i.toNat ++ ws.drop j.toNat ++ List.replicate (j.toNat - i.toNat) wz = (ws.take i.toNat ++ ws.drop j.toNat ++ ws.drop (i.toNat + (ws.drop j.toNat).length)).take (i.toNat + (ws.drop j.toNat).length) ++ List.replicate (ws.length - (i.toNat + (ws.drop j.toNat).length)) wz ++ (ws.take i.toNat ++ ws.drop j.toNat ++ ws.drop (i.toNat + (ws.drop j.toNat).length)).drop (i.toNat + (ws.drop j.toNat).length + (ws.length - (i.toNat + (ws.drop j.toNat).length))) := by
  have hdl : (ws.drop j.toNat).length = ws.length - j.toNat := List.length_drop
  have hl : (ws.take i.toNat ++ ws.drop j.toNat).length = i.toNat + (ws.drop j.toNat).length := by simp only [List.length_append, List.length_take]; omega
  have e1 : (ws.take i.toNat ++ ws.drop j.toNat ++ ws.drop (i.toNat + (ws.drop j.toNat).length)).take (i.toNat + (ws.drop j.toNat).length) = ws.take i.toNat ++ ws.drop j.toNat := by rw [← hl]; exact List.take_left
  have e2 : (ws.take i.toNat ++ ws.drop j.toNat ++ ws.drop (i.toNat + (ws.drop j.toNat).length)).drop (i.toNat + (ws.drop j.toNat).length + (ws.length - (i.toNat + (ws.drop j.toNat).length))) = [] := List.drop_eq_nil_of_le (by simp only [List.length_append, List.length_take, List.length_drop]; omega)
  rw [e1, e2, List.append_nil]
  congr 2; omega

theorem c174 (x : Dl) : Good Try.prog 174 [eDl x] (vb (isOnlyD x)) [] := by
  refine good_of (E := En 40) (fn := Try.f174) (by kernel_rfl) (by kernel_rfl) rfl rfl (by simp only [List.length_cons, List.length_nil]; decide) (fun C0 => ?_)
  simp only [argT, Nat.reduceAdd, eB, eM, eWS]
  refine ev_seq fun K1 h1 => ?_
  refine ev_rf mB ?_
  iterate 2 refine dr_act wN mb ma mc mT mR ?_
  refine dr_nil (h1 _ ?_); clear h1
  refine ev_cut ⟨[(1, .ptr (0, none) 0 0), (2, vb false), (3, vb ((x.t != 1) && ((x.t != 3) && (x.t != 8))))], [(0, ⟨120, 4, [[vi x.t, vi x.a, vi x.b, vi x.c]]⟩)], 128⟩ ?_ ?_
  · refine ev_rf mB ?_
    iterate 4 refine dr_act wN mb ma mc mT mR ?_
    cases hc1 : (x.t != 1)
    · have hc1 := eq_of_bneF hc1
      iterate 3 refine dr_skip wG mT ?_
      iterate 2 refine dr_act wN mb ma mc mT mR ?_
      iterate 3 refine dr_skip wG mT ?_
      iterate 2 refine dr_act wN mb ma mc mT mR ?_
      refine dr_nil ?_
      exact weak_ren [] mK mK mD mQ
    have hc1 := bne_iff_ne.1 hc1
    iterate 3 refine dr_act wG mb ma mc mT mR ?_
    iterate 2 refine dr_act wN mb ma mc mT mR ?_
    cases hc2 : (x.t != 3)
    · have hc2 := eq_of_bneF hc2
      iterate 3 refine dr_skip wG mT ?_
      iterate 2 refine dr_act wN mb ma mc mT mR ?_
      refine dr_nil ?_
      exact weak_ren [] mK mK mD mQ
    have hc2 := bne_iff_ne.1 hc2
    iterate 3 refine dr_act wG mb ma mc mT mR ?_
    iterate 2 refine dr_act wN mb ma mc mT mR ?_
    refine dr_nil ?_
    exact weak_ren [] mK mK mD mQ
  refine ev_cut ⟨[(1, .ptr (0, none) 0 0), (2, vb false), (3, vb ((x.t != 1) && ((x.t != 3) && (x.t != 8)))), (4, vb ((x.t == 2) || (x.t == 4)))], [(0, ⟨120, 4, [[vi x.t, vi x.a, vi x.b, vi x.c]]⟩)], 200⟩ ?_ ?_
  · refine ev_rf mB ?_
    iterate 4 refine dr_act wN mb ma mc mT mR ?_
    cases hc3 : (x.t == 2)
    · have hc3 := ne_of_beq_false hc3
      iterate 3 refine dr_act wG mb ma mc mT mR ?_
      iterate 2 refine dr_act wN mb ma mc mT mR ?_
      refine dr_nil ?_
      exact weak_ren [] mK mK mD mQ
    have hc3 := eq_of_beq hc3
    iterate 3 refine dr_skip wG mT ?_
    iterate 2 refine dr_act wN mb ma mc mT mR ?_
    refine dr_nil ?_
    exact weak_ren [] mK mK mD mQ
  refine ev_cut ⟨[(2, vb (bif (x.t != 1) && ((x.t != 3) && (x.t != 8)) then ((x.t == 2) || (x.t == 4)) || (x.c == 0) else (x.b == 0) && (((x.t == 2) || (x.t == 4)) || (x.c == 0))))], [], 320⟩ ?_ ?_
  · refine ev_rf mB ?_
    iterate 2 refine dr_act wN mb ma mc mT mR ?_
    cases hc4 : ((x.t != 1) && ((x.t != 3) && (x.t != 8)))
    rotate_left
    · iterate 3 refine dr_skip wG mT ?_
      iterate 2 refine dr_act wN mb ma mc mT mR ?_
      iterate 2 refine dr_act wG mb ma mc mT mR ?_
      cases hc7 : ((x.t == 2) || (x.t == 4))
      · iterate 4 refine dr_act wG mb ma mc mT mR ?_
        iterate 2 refine dr_act wN mb ma mc mT mR ?_
        refine dr_nil ?_
        exact weak_ren [] mK mK mD mQ
      iterate 3 refine dr_skip wG mT ?_
      refine dr_act wG mb ma mc mT mR ?_
      iterate 2 refine dr_act wN mb ma mc mT mR ?_
      refine dr_nil ?_
      exact weak_ren [] mK mK mD mQ
    iterate 3 refine dr_act wG mb ma mc mT mR ?_
    iterate 2 refine dr_act wN mb ma mc mT mR ?_
    cases hc5 : (x.b == 0)
    · have hc5 := ne_of_beq_false hc5
      iterate 2 refine dr_skip wG mT ?_
      iterate 3 refine dr_skip wU mT ?_
      refine dr_skip wG mT ?_
      iterate 2 refine dr_act wN mb ma mc mT mR ?_
      refine dr_nil ?_
      exact weak_ren [] mK mK mD mQ
    have hc5 := eq_of_beq hc5
    iterate 2 refine dr_act wG mb ma mc mT mR ?_
    cases hc6 : ((x.t == 2) || (x.t == 4))
    · iterate 4 refine dr_act wG mb ma mc mT mR ?_
      iterate 2 refine dr_act wN mb ma mc mT mR ?_
      refine dr_nil ?_
      exact weak_ren [] mK mK mD mQ
    iterate 3 refine dr_skip wG mT ?_
    refine dr_act wG mb ma mc mT mR ?_
    iterate 2 refine dr_act wN mb ma mc mT mR ?_
    refine dr_nil ?_
    exact weak_ren [] mK mK mD mQ
  refine ev_ret ?_
  exact retT [2] (hv := (by simp [isOnlyD, oneOf, Bool.or_assoc, *]))

theorem c173n (cap : Nat) : Good Try.prog 173 [.val (.slice none 0 cap)] (.val (.slice none 0 0)) [] := by
  refine good_of (E := En 8) (fn := Try.f173) (by kernel_rfl) (by kernel_rfl) rfl rfl (by simp only [List.length_cons, List.length_nil]; decide) (fun C0 => ?_)
  simp only [argT, Nat.reduceAdd, eWS]
  refine ev_seq fun K1 h1 => ev_rf mB ?_
  repeat refine dr_act wN mb ma mc mT mR ?_
  refine dr_nil (h1 _ ?_); clear h1 K1
  refine ev_seq fun K1 h1 => ev_seq fun K2 h2 => ev_rf mB ?_
  repeat refine dr_act wN mb ma mc mT mR ?_
  refine dr_nil (h2 _ ?_); clear h2 K2
  refine ev_cond true ml (fun h => ?_) (fun h => by cases h)
  refine ev_seq fun K2 h2 => ev_rf mB ?_
  repeat refine dr_act wN mb ma mc mT mR ?_
  refine dr_nil (h2 _ (ev_ret ?_)); clear h2 h1
  exact retT [2] (hv := rfl)
theorem c173s (ad : Addr) (cap : Nat) : Good Try.prog 173 [.val (.slice (some ad) 0 cap)] (.ref (0, none) 0 0) [⟨32, 4, []⟩] := by
  refine good_of (E := En 8) (fn := Try.f173) (by kernel_rfl) (by kernel_rfl) rfl rfl (by simp only [List.length_cons, List.length_nil]; decide) (fun C0 => ?_)
  simp only [argT, Nat.reduceAdd, eWS]
  refine ev_seq fun K1 h1 => ev_rf mB ?_
  repeat refine dr_act wN mb ma mc mT mR ?_
  refine dr_nil (h1 _ ?_); clear h1 K1
  refine ev_seq fun K1 h1 => ev_seq fun K2 h2 => ev_rf mB ?_
  repeat refine dr_act wN mb ma mc mT mR ?_
  refine dr_nil (h2 _ ?_); clear h2 K2
  refine ev_cond false ml (fun h => by cases h) (fun h => ev_skip (h1 _ ?_)); clear h1 K1
  refine ev_seq fun K2 h2 => ev_rf mB ?_
  repeat refine dr_act wN mb ma mc mT mR ?_
  repeat refine dr_act wN mb ma mc mT mR ?_
  refine dr_nil (h2 _ (ev_ret ?_)); clear h2
  exact retR [24] [2] (hv := rfl) (hR := ⟨⟨rfl, rfl⟩, trivial⟩)
theorem c173l (xs : List Win) (h0 : 0 < xs.length) (hl : xs.length ≤ 1048576) : Good Try.prog 173 [.list 4 (xs.map cW)] (.ref (0, none) 0 xs.length) [⟨32, 4, xs.map cW⟩] := by
  refine good_of (E := En 8) (fn := Try.f173) (by kernel_rfl) (by kernel_rfl) rfl rfl (by simp only [List.length_cons, List.length_nil]; decide) (fun C0 => ?_)
  simp only [argT, Nat.reduceAdd, eWS]
  refine ev_seq fun K1 h1 => ev_rf mB ?_
  repeat refine dr_act wN mb ma mc mT mR ?_
  refine dr_nil (h1 _ ?_); clear h1 K1
  refine ev_seq fun K1 h1 => ev_seq fun K2 h2 => ev_rf mB ?_
  repeat refine dr_act wN mb ma mc mT mR ?_
  refine dr_act wN mb ma (by exact h0) mT mR ?_
  refine dr_nil (h2 _ ?_); clear h2 K2
  refine ev_cond _ ml (fun h => by cases h) (fun h => ev_skip (h1 _ ?_)); clear h1 K1
  refine ev_seq fun K2 h2 => ev_rf mB ?_
  repeat refine dr_act wN mb ma mc mT mR ?_
  refine dr_act wN mb ma (by exact ⟨by simp only [maxLen]; omega, by omega⟩) mT mR ?_
  repeat refine dr_act wN mb ma mc mT mR ?_
  refine dr_nil (h2 _ (ev_ret ?_)); clear h2
  exact retR [40] [2] (hv := rfl) (hR := ⟨⟨rfl, pure_map fun _ => rfl⟩, trivial⟩)
theorem c173 (xs : List Win) (hl : xs.length ≤ 1048576) : Good Try.prog 173 [.list 4 (xs.map cW)] (.ref (0, none) 0 xs.length) [⟨32, 4, xs.map cW⟩] := by
  rcases xs with _ | ⟨x, xs⟩
  · refine good_empty fun a cap => ?_
    rcases a with _ | ad
    · exact good_nil 32 4 (c173n cap)
    · exact c173s ad cap
  · exact c173l (x :: xs) (by simp) hl

theorem c142 (d : Dk) (hl1 : d.m.length ≤ 1048576) (hl2 : ∀ r, r ∈ d.m → r.length ≤ 1048576) (hw : d.ws.length ≤ 1048576) : Good Try.prog 142 [eD d] (oD 0 d) [rM d.m, rWS d.ws] := by
  refine good_of (E := En 13) (fn := Try.f142) (by kernel_rfl) (by kernel_rfl) rfl rfl (by simp only [List.length_cons, List.length_nil]; decide) (fun C0 => ?_)
  simp only [argT, Nat.reduceAdd, eB, eM, eWS]
  refine ev_seq fun K1 h1 => ?_
  refine ev_rf mB ?_
  iterate 2 refine dr_act wN mb ma mc mT mR ?_
  refine dr_nil (h1 _ ?_); clear h1
  refine ev_seq fun K1 h1 => ?_
  refine ev_reg mB ?_
  iterate 2 refine dr_act wN mb ma mc mT mR ?_
  refine dr_callF wN mr mb mx mr (c150 d.m mh mh) (Nat.le_of_ble_eq_true rfl) mv mT mN ?_
  iterate 3 refine dr_act wN mb ma mc mT mR ?_
  refine dr_app (g := cW) ([] : List Win) d.ws wN mr mb ml mr rfl ml mr mA (fun _ => rfl) (by first | omega | (simp only [cutL, List.length_append, List.length_cons, List.length_nil, List.length_take, List.length_drop]; omega)) mT mR ?_
  iterate 4 refine dr_act wN mb ma mc mT mR ?_
  refine dr_nil ⟨fun _ => by kernel_rfl, h1 _ ?_⟩; clear h1
  refine ev_ret ?_
  exact retL [32, 64] (res' := [.cell 2 116]) mr (.cell nT mZ ma mc mP .nil) rfl mr (by decide) ⟨⟨mr, (pure_map fun _ => by first | rfl | simp [pcell])⟩, ⟨mr, (pure_map fun _ => by first | rfl | simp [pcell])⟩, trivial⟩

theorem c140 (d : Dk) (hl1 : d.m.length ≤ 1048576) (hl2 : ∀ r, r ∈ d.m → r.length ≤ 1048576) (hw : d.ws.length ≤ 1048576) : Good Try.prog 140 [eD d] (oD 0 d) [rM d.m, rWS d.ws] := by
  refine good_of (E := En 12) (fn := Try.f140) (by kernel_rfl) (by kernel_rfl) rfl rfl (by simp only [List.length_cons, List.length_nil]; decide) (fun C0 => ?_)
  simp only [argT, Nat.reduceAdd, eB, eM, eWS]
  refine ev_seq fun K1 h1 => ?_
  refine ev_rf mB ?_
  iterate 2 refine dr_act wN mb ma mc mT mR ?_
  refine dr_nil (h1 _ ?_); clear h1
  refine ev_seq fun K1 h1 => ?_
  refine ev_reg mB ?_
  iterate 2 refine dr_act wN mb ma mc mT mR ?_
  refine dr_callF wN mr mb mx mr (c127 d.m mh mh) (Nat.le_of_ble_eq_true rfl) mv mT mN ?_
  iterate 2 refine dr_act wN mb ma mc mT mR ?_
  refine dr_callF wN mr mb mx mr (c173 d.ws mh) (Nat.le_of_ble_eq_true rfl) mv mT mN ?_
  iterate 4 refine dr_act wN mb ma mc mT mR ?_
  refine dr_nil ⟨fun _ => by kernel_rfl, h1 _ ?_⟩; clear h1
  refine ev_ret ?_
  exact retL [32, 56] (res' := [.cell 2 116]) mr (.cell nT mZ ma mc mP .nil) rfl mr (by decide) ⟨⟨mr, (pure_map fun _ => by first | rfl | simp [pcell])⟩, ⟨mr, (pure_map fun _ => by first | rfl | simp [pcell])⟩, trivial⟩

theorem c170 (d : Dk) (w : Win) (hw : d.ws.length ≤ 1048576) : GoodR Try.prog 170 [oD 0 d, eW w] [rM d.m, rWS d.ws] (.agg [.ref (0, none) 0 d.m.length, .ref (2, none) 0 (d.ws ++ [w]).length, vi d.k]) [some (rM d.m), some (rWS d.ws), some (rWS (d.ws ++ [w]))] := by
  refine goodR_of (E := En 16 2) (fn := Try.f170) (by kernel_rfl) (by kernel_rfl) rfl rfl (by simp only [List.length_cons, List.length_nil]; decide) ⟨rfl, by simp only [List.length_cons, List.length_nil]; decide⟩ rfl ⟨(okMap (fun _ => by first | rfl | simp [okC]) _), ⟨(okMap (fun _ => by first | rfl | simp [okC]) _), ⟨(okMap (fun _ => by first | rfl | simp [okC]) _), trivial⟩⟩⟩ (fun C0 => ?_)
  simp only [argT, rsT, Nat.reduceAdd, List.length_cons, List.length_nil, eB, eM, eWS]
  refine ev_seq fun K1 h1 => ?_
  refine ev_rf mB ?_
  iterate 3 refine dr_act wN mb ma mc mT mR ?_
  refine dr_nil (h1 _ ?_); clear h1
  refine ev_seq fun K1 h1 => ?_
  refine ev_rf mB ?_
  iterate 3 refine dr_act wN mb ma mc mT mR ?_
  refine dr_nil (h1 _ ?_); clear h1
  refine ev_seq fun K1 h1 => ?_
  refine ev_reg mB ?_
  iterate 3 refine dr_act wN mb ma mc mT mR ?_
  refine dr_app (g := cW) ([] : List Win) d.ws wN mr mb ml mr rfl ml (els_ref mr rfl) mA (fun _ => rfl) (by first | omega | (simp only [cutL, List.length_append, List.length_cons, List.length_nil, List.length_take, List.length_drop]; omega)) mT mR ?_
  iterate 2 refine dr_act wN mb ma mc mT mR ?_
  refine dr_app (g := cW) d.ws [w] wN mr mb ml mr rfl ml mr mA (fun _ => rfl) (by first | omega | (simp only [cutL, List.length_append, List.length_cons, List.length_nil, List.length_take, List.length_drop]; omega)) mT mR ?_
  iterate 2 refine dr_act wN mb ma mc mT mR ?_
  refine dr_nil ⟨fun _ => by kernel_rfl, h1 _ ?_⟩; clear h1
  refine ev_seq fun K1 h1 => ?_
  refine ev_rf mB ?_
  iterate 2 refine dr_act wN mb ma mc mT mR ?_
  refine dr_nil (h1 _ ?_); clear h1
  refine ev_ret ?_
  exact retLR [98] (res' := [.cell 4 116]) mr (.cell nT mZ ma mc mP .nil) rfl ⟨by decide, by decide⟩ rfl ⟨⟨_, mr, rfl, rfl, rnMap (fun _ => rfl) _⟩, ⟨_, mr, rfl, rfl, rnMap (fun _ => rfl) _⟩, ⟨_, mr, rfl, rfl, rnMap (fun _ => rfl) _⟩, trivial⟩

theorem c139 (d : Dk) (hl1 : d.m.length ≤ 1048576) (hl2 : ∀ r, r ∈ d.m → r.length ≤ 1048576) (hw : d.ws.length ≤ 1048576) : Good Try.prog 139 [eD d] (vb (okD d)) [] := by
  refine good_of (E := En 19) (fn := Try.f139) (by kernel_rfl) (by kernel_rfl) rfl rfl (by simp only [List.length_cons, List.length_nil]; decide) (fun C0 => ?_)
  simp only [argT, Nat.reduceAdd, eB, eM, eWS]
  have k146 := c146 d.m d.ws hl1 hl2 hw
  rw [all_hasW] at k146
  refine ev_seq fun K1 h1 => ?_
  refine ev_rf mB ?_
  iterate 2 refine dr_act wN mb ma mc mT mR ?_
  refine dr_nil (h1 _ ?_); clear h1
  refine ev_cut ⟨[(2, vb ((okM d.m && d.ws.all (okW d.m)) && ((decide ((d.ws.length : Int) ≤ 8)) && (decide (0 ≤ d.k ∧ d.k ≤ 1000)))))], [], 152⟩ ?_ ?_
  · refine ev_rf mB ?_
    iterate 4 refine dr_act wN mb ma mc mT mR ?_
    refine dr_callF wN mr mb mx mr k146 (Nat.le_of_ble_eq_true rfl) mv mT mN ?_
    refine dr_act wN mb ma mc mT mR ?_
    cases hc1 : (okM d.m && d.ws.all (okW d.m))
    · iterate 4 refine dr_skip wG mT ?_
      iterate 2 refine dr_act wN mb ma mc mT mR ?_
      iterate 3 refine dr_skip wG mT ?_
      iterate 2 refine dr_act wN mb ma mc mT mR ?_
      refine dr_nil ?_
      exact weak_ren [] mK mK mD mQ
    iterate 4 refine dr_act wG mb ma mc mT mR ?_
    iterate 2 refine dr_act wN mb ma mc mT mR ?_
    cases hc2 : (decide ((d.ws.length : Int) ≤ 8))
    · have hc2 := of_decide_eq_false hc2
      iterate 3 refine dr_skip wG mT ?_
      iterate 2 refine dr_act wN mb ma mc mT mR ?_
      refine dr_nil ?_
      exact weak_ren [] mK mK mD mQ
    have hc2 := of_decide_eq_true hc2
    iterate 2 refine dr_act wG mb ma mc mT mR ?_
    refine dr_callF wG mr mb mx mr (c123 d.k 0 1000) (Nat.le_of_ble_eq_true rfl) mv mT mN ?_
    iterate 2 refine dr_act wN mb ma mc mT mR ?_
    refine dr_nil ?_
    exact weak_ren [] mK mK mD mQ
  refine ev_ret ?_
  exact retT [2] (hv := (by rw [okD_eq]; simp [oneOf, Bool.and_assoc, *]))

theorem c183 (ws : List Win) (i j : Int) (h : 0 ≤ i ∧ i < j ∧ j ≤ ws.length) (hw : ws.length ≤ 1048576) : GoodR Try.prog 183 [.ref (0, none) 0 ws.length, vi i, vi j] [rWS ws] (.ref (0, none) 0 (i.toNat + (ws.drop j.toNat).length)) [some (rWS (ws.take i.toNat ++ ws.drop j.toNat ++ List.replicate (j.toNat - i.toNat) wz))] := by
  refine goodR_of (E := En 33 1) (fn := Try.f183) (by kernel_rfl) (by kernel_rfl) rfl rfl (by simp only [List.length_cons, List.length_nil]; decide) ⟨rfl, by simp only [List.length_cons, List.length_nil]; decide⟩ rfl ⟨(okMap (fun _ => by first | rfl | simp [okC]) _), trivial⟩ (fun C0 => ?_)
  simp only [argT, rsT, Nat.reduceAdd, List.length_cons, List.length_nil, eB, eM, eWS]
  have hcl : cutL ws j.toNat (ws.length - j.toNat) = ws.drop j.toNat := cutL_tail (by omega)
  have hdl : (ws.drop j.toNat).length = ws.length - j.toNat := List.length_drop
  refine ev_seq fun K1 h1 => ?_
  refine ev_rf mB ?_
  refine dr_act wN mb ma mc mT mR ?_
  refine dr_nil (h1 _ ?_); clear h1
  refine ev_seq fun K1 h1 => ?_
  refine ev_rf mB ?_
  iterate 5 refine dr_act wN mb ma mc mT mR ?_
  refine dr_sl3 wN mr mb ml mr ml ml ml mA (by omega) mT ?_
  refine dr_nil (h1 _ ?_); clear h1
  refine ev_seq fun K1 h1 => ?_
  refine ev_seq fun K2 h2 => ?_
  refine ev_rf mB ?_
  iterate 3 refine dr_act wN mb ma mc mT mR ?_
  refine dr_nil (h2 _ ?_); clear h2
  cases hc1 : (i == j)
  rotate_left
  · have hc1 := eq_of_beq hc1
    exact (by omega : False).elim
  have hc1 := ne_of_beq_false hc1
  refine ev_cond false mlq (fun hz => by cases hz) (fun hz => ?_)
  refine ev_skip (h1 _ ?_); clear h1
  refine ev_seq fun K1 h1 => ?_
  refine ev_rf mB ?_
  iterate 3 refine dr_act wN mb ma mc mT mR ?_
  refine dr_nil (h1 _ ?_); clear h1
  refine ev_seq fun K1 h1 => ?_
  refine ev_reg mB ?_
  iterate 2 refine dr_act wN mb ma mc mT mR ?_
  refine dr_slo (a := 0) (c := i) (off' := 0) (len' := i.toNat) wN mr mb ml mr mbn mbn mS (by omega) (by omega) mT ?_
  iterate 2 refine dr_act wN mb ma mc mT mR ?_
  refine dr_slo (a := j) (c := (ws.length : Int)) (off' := j.toNat) (len' := ws.length - j.toNat) wN mr mb ml mr mbn mbn mS (by omega) (by omega) mT ?_
  refine dr_api (g := cW) ws (cutL ws j.toNat (ws.length - j.toNat)) wN mr mb ml mr ml (els_cut mr) mA (fun _ => rfl) (by rw [hcl, hdl]; omega) mT mR ?_
  rw [hcl]
  have hxl : (ws.take i.toNat ++ ws.drop j.toNat ++ ws.drop (i.toNat + (ws.drop j.toNat).length)).length = ws.length := by simp only [List.length_append, List.length_take, List.length_drop]; omega
  refine dr_act wN mb ma mc mT mR ?_
  refine dr_nil ⟨fun _ => by kernel_rfl, h1 _ ?_⟩; clear h1
  refine ev_seq fun K1 h1 => ?_
  refine ev_rf mB ?_
  iterate 4 refine dr_act wN mb ma mc mT mR ?_
  refine dr_slx (ys := (ws.take i.toNat ++ ws.drop j.toNat ++ ws.drop (i.toNat + (ws.drop j.toNat).length))) (off' := i.toNat + (ws.drop j.toNat).length) (len' := ws.length - (i.toNat + (ws.drop j.toNat).length)) wN mr mb ml mr ml ml mA (by rw [hxl]; omega) (by omega) mT ?_
  refine dr_clr (g := cW) (ws.take i.toNat ++ ws.drop j.toNat ++ ws.drop (i.toNat + (ws.drop j.toNat).length)) wz wN mr mb ml mr mA mr (by rw [hxl]; omega) mT mR ?_
  refine dr_nil (h1 _ ?_); clear h1
  refine ev_seq fun K1 h1 => ?_
  refine ev_rf mB ?_
  iterate 2 refine dr_act wN mb ma mc mT mR ?_
  refine dr_nil (h1 _ ?_); clear h1
  refine ev_ret ?_
  rw [show ws.take i.toNat ++ ws.drop j.toNat ++ List.replicate (j.toNat - i.toNat) wz = (ws.take i.toNat ++ ws.drop j.toNat ++ ws.drop (i.toNat + (ws.drop j.toNat).length)).take (i.toNat + (ws.drop j.toNat).length) ++ List.replicate (ws.length - (i.toNat + (ws.drop j.toNat).length)) wz ++ (ws.take i.toNat ++ ws.drop j.toNat ++ ws.drop (i.toNat + (ws.drop j.toNat).length)).drop (i.toNat + (ws.drop j.toNat).length + (ws.length - (i.toNat + (ws.drop j.toNat).length))) from del_eq h]
  exact retLR [] (res' := [.tmp 6]) mr (.tmp nT mL .nil) rfl ⟨by decide, by decide⟩ rfl ⟨⟨_, mr, rfl, rfl, rnMap (fun _ => rfl) _⟩, trivial⟩
end Go.Ev
