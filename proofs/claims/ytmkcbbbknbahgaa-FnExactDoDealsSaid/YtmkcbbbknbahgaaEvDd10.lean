/- Part 10 of the proof: the evaluator and the contracts of functions. -/
import Derived.Below
import Derived.ChangeArms
import Derived.ChangeOld
import Derived.DataReads
import Derived.KernelRfl
import Derived.Laws.AppendOwn
import Derived.Laws.BytesArg
import Derived.Laws.BytesString
import Derived.Laws.CopyRow
import Derived.Laws.Entries
import Derived.Laws.IdiomCopy
import Derived.Laws.MakeOwn
import Derived.Laws.OwnMore
import Derived.OpenShut
import Derived.Orders
import Derived.Test.YtmkcbbbknbahgaaProg
import Derived.Test.YtmkcbbbknbahgaaEvDd9
set_option linter.unusedVariables false
set_option linter.unusedSimpArgs false
namespace Go.Ev
open Go Go.RowKit Go.Proofs

theorem okD_r {d : Dk} (h : okD d = true) : okR d.m d.ws = true ∧ (d.ws.length : Int) ≤ 8 ∧ 0 ≤ d.k ∧ d.k ≤ 1000 := by
  simp only [okD, Bool.and_eq_true, decide_eq_true_eq] at h
  exact ⟨h.1.1, h.1.2, h.2⟩
theorem okD_w {d : Dk} (h : okD d = true) {a : Int} (ha : 0 ≤ a ∧ a ≤ (d.ws.length : Int) - 1) : okW d.m (d.ws.getD a.toNat wz) = true := by
  have h1 := (okD_r h).1
  simp only [okR, Bool.and_eq_true] at h1
  exact List.all_eq_true.1 h1.1.2 _ (mem_w (by omega))
theorem okD_g {d : Dk} (h : okD d = true) : GM d.m := by
  have h1 := (okD_r h).1
  simp only [okR, Bool.and_eq_true] at h1
  exact okM_GM h1.1.1
theorem uM_map {α : Type} {o : Option (List (List Int) × Int)} : uM (o.map Prod.fst) = (o.getD ([], 0)).1 := by cases o <;> rfl
def b2D (d : Dk) (x : Dl) : Option (List (List Int)) :=
  if x.t = 4 then (if 0 ≤ x.c ∧ x.c ≤ 255 then wrAt d.m (d.ws.getD x.a.toNat wz) x.b (IntKind.u8.wrap x.c) else none)
  else if x.t = 6 then (if 0 ≤ x.b ∧ x.b ≤ (d.ws.length : Int) - 1 then (cpO d.m (d.ws.getD x.a.toNat wz) (d.ws.getD x.b.toNat wz)).map Prod.fst else none)
  else tnO d.m (d.ws.getD x.a.toNat wz) x.b
def hdD' (d : Dk) (x : Dl) (w : Win) : Dk × Bool :=
  if x.t = 2 then (⟨d.m, d.ws ++ [(slW d.m w x.b x.c w.c).getD wz], d.k⟩, (slW d.m w x.b x.c w.c).isSome)
  else if x.t = 3 then (⟨d.m, d.ws.set x.a.toNat ⟨w.a, w.s + 0, w.n - 0, w.n - 0⟩, d.k⟩, true)
  else if x.t = 8 then (⟨d.m, d.ws.take x.a.toNat ++ d.ws.drop (x.a + 1).toNat, d.k⟩, true)
  else if x.t = 5 then (if 0 ≤ x.b ∧ x.b ≤ 255 then (⟨(uMW (apM d.m w [IntKind.u8.wrap x.b])).1, d.ws.set x.a.toNat (uMW (apM d.m w [IntKind.u8.wrap x.b])).2, d.k⟩, (apM d.m w [IntKind.u8.wrap x.b]).isSome) else (d, false))
  else (⟨uM (b2D d x), d.ws, d.k⟩, (b2D d x).isSome)
def hdl (d : Dk) (x : Dl) : Dk × Bool := hdD' d x (d.ws.getD x.a.toNat wz)
section
variable {d : Dk} {x : Dl}
theorem hdl_2 (h : x.t = 2) : hdl d x = (⟨d.m, d.ws ++ [(slW d.m (d.ws.getD x.a.toNat wz) x.b x.c (d.ws.getD x.a.toNat wz).c).getD wz], d.k⟩, (slW d.m (d.ws.getD x.a.toNat wz) x.b x.c (d.ws.getD x.a.toNat wz).c).isSome) := by rw [hdl, hdD', if_pos h]
theorem hdl_3 (h : x.t = 3) : hdl d x = (⟨d.m, d.ws.set x.a.toNat ⟨(d.ws.getD x.a.toNat wz).a, (d.ws.getD x.a.toNat wz).s + 0, (d.ws.getD x.a.toNat wz).n - 0, (d.ws.getD x.a.toNat wz).n - 0⟩, d.k⟩, true) := by rw [hdl, hdD', if_neg (by omega), if_pos h]
theorem hdl_8 (h : x.t = 8) : hdl d x = (⟨d.m, d.ws.take x.a.toNat ++ d.ws.drop (x.a + 1).toNat, d.k⟩, true) := by rw [hdl, hdD', if_neg (by omega), if_neg (by omega), if_pos h]
theorem hdl_5 (h : x.t = 5) (hb : 0 ≤ x.b ∧ x.b ≤ 255) : hdl d x = (⟨(uMW (apM d.m (d.ws.getD x.a.toNat wz) [IntKind.u8.wrap x.b])).1, d.ws.set x.a.toNat (uMW (apM d.m (d.ws.getD x.a.toNat wz) [IntKind.u8.wrap x.b])).2, d.k⟩, (apM d.m (d.ws.getD x.a.toNat wz) [IntKind.u8.wrap x.b]).isSome) := by rw [hdl, hdD', if_neg (by omega), if_neg (by omega), if_neg (by omega), if_pos h, if_pos hb]
theorem hdl_5n (h : x.t = 5) (hb : ¬ (0 ≤ x.b ∧ x.b ≤ 255)) : hdl d x = (d, false) := by rw [hdl, hdD', if_neg (by omega), if_neg (by omega), if_neg (by omega), if_pos h, if_neg hb]
theorem hdl_e (h2 : x.t ≠ 2) (h3 : x.t ≠ 3) (h8 : x.t ≠ 8) (h5 : x.t ≠ 5) : hdl d x = (⟨uM (b2D d x), d.ws, d.k⟩, (b2D d x).isSome) := by rw [hdl, hdD', if_neg h2, if_neg h3, if_neg h8, if_neg h5]
theorem b2D_4 (h : x.t = 4) (hc : 0 ≤ x.c ∧ x.c ≤ 255) : b2D d x = wrAt d.m (d.ws.getD x.a.toNat wz) x.b (IntKind.u8.wrap x.c) := by rw [b2D, if_pos h, if_pos hc]
theorem b2D_4n (h : x.t = 4) (hc : ¬ (0 ≤ x.c ∧ x.c ≤ 255)) : b2D d x = none := by rw [b2D, if_pos h, if_neg hc]
theorem b2D_6 (h4 : x.t ≠ 4) (h : x.t = 6) (hc : 0 ≤ x.b ∧ x.b ≤ (d.ws.length : Int) - 1) : b2D d x = (cpO d.m (d.ws.getD x.a.toNat wz) (d.ws.getD x.b.toNat wz)).map Prod.fst := by rw [b2D, if_neg h4, if_pos h, if_pos hc]
theorem b2D_6n (h4 : x.t ≠ 4) (h : x.t = 6) (hc : ¬ (0 ≤ x.b ∧ x.b ≤ (d.ws.length : Int) - 1)) : b2D d x = none := by rw [b2D, if_neg h4, if_pos h, if_neg hc]
theorem b2D_e (h4 : x.t ≠ 4) (h : x.t ≠ 6) : b2D d x = tnO d.m (d.ws.getD x.a.toNat wz) x.b := by rw [b2D, if_neg h4, if_neg h]
end

theorem c196 (d : Dk) (x : Dl) (hd : okD d = true) (ha : 0 ≤ x.a ∧ x.a ≤ (d.ws.length : Int) - 1) : Good Try.prog 196 [eD d, eDl x] (.tup [oM 0 (uM (b2D d x)), vb (b2D d x).isSome]) [rM (uM (b2D d x))] := by
  refine good_of (E := En 68) (fn := Try.f196) (by kernel_rfl) (by kernel_rfl) rfl rfl (by simp only [List.length_cons, List.length_nil]; decide) (fun C0 => ?_)
  simp only [argT, Nat.reduceAdd, eB, eM, eWS]
  have hgm := okD_g hd
  have hl1 := hgm.l4
  have hl2 := hgm.r4
  have hr := okD_r hd
  have hw : d.ws.length ≤ 1048576 := by omega
  have hWv := okD_w hd ha
  have hG := okW_GW hWv
  have g3 := hG.s0
  have g4 := hG.n0
  have g5 := hG.n1
  have g6 := hG.c1
  have g7 := hG.row
  have g8 := hG.c64
  refine ev_seq fun K1 h1 => ?_
  refine ev_rf mB ?_
  iterate 4 refine dr_act wN mb ma mc mT mR ?_
  refine dr_nil (h1 _ ?_); clear h1
  refine ev_seq fun K1 h1 => ?_
  refine ev_rf mB ?_
  iterate 4 refine dr_act wN mb ma mc mT mR ?_
  refine dr_ix (wz : Win) wN mr mb ml ml mS (by omega) mT ?_
  iterate 3 refine dr_act wN mb ma mc mT mR ?_
  refine dr_nil (h1 _ ?_); clear h1
  refine ev_seq fun K1 h1 => ?_
  refine ev_seq fun K2 h2 => ?_
  refine ev_rf mB ?_
  iterate 2 refine dr_act wN mb ma mc mT mR ?_
  refine dr_nil (h2 _ ?_); clear h2
  refine ev_block ?_
  refine ev_seq fun K2 h2 => ?_
  refine ev_rf mB ?_
  iterate 2 refine dr_act wN mb ma mc mT mR ?_
  refine dr_nil (h2 _ ?_); clear h2
  cases hc1 : (x.t == 4)
  rotate_left
  · have hc1 := eq_of_beq hc1
    refine ev_cond true mlq (fun hz => ?_) (fun hz => by cases hz)
    refine ev_seq fun K2 h2 => ?_
    refine ev_seq fun K3 h3 => ?_
    refine ev_rf mB ?_
    iterate 2 refine dr_act wN mb ma mc mT mR ?_
    refine dr_callF wN mr mb mx mr (c133 x.c 0 255) (Nat.le_of_ble_eq_true rfl) mv mT mN ?_
    refine dr_act wN mb ma mc mT mR ?_
    refine dr_nil (h3 _ ?_); clear h3
    cases hc4 : (decide (0 ≤ x.c ∧ x.c ≤ 255))
    · have hc4 := of_decide_eq_false hc4
      refine ev_cond true mlq (fun hz => ?_) (fun hz => by cases hz)
      refine ev_seq fun K3 h3 => ?_
      refine ev_rf mB ?_
      iterate 3 refine dr_act wN mb ma mc mT mR ?_
      refine dr_nil (h3 _ ?_); clear h3
      refine ev_weak (weak_nil 16 0 0 29 1 mr mr mr mNl (by decide : 184 < 192)) ?_
      refine ev_ret ?_
      rw [b2D_4n (by assumption) (by assumption)]
      exact retL [184] (res' := [.cell 4 31, .tmp 5]) mr (.cell nT mZ ma mc mP (.tmp nT mL .nil)) rfl mr (by decide) ⟨⟨mr, rfl⟩, trivial⟩
    have hc4 := of_decide_eq_true hc4
    refine ev_cond false mlq (fun hz => by cases hz) (fun hz => ?_)
    refine ev_skip (h2 _ ?_); clear h2
    refine ev_seq fun K2 h2 => ?_
    refine ev_rf mB ?_
    iterate 8 refine dr_act wN mb ma mc mT mR ?_
    refine dr_callF wN mr mb mx mr (c207 d.m (d.ws.getD x.a.toNat wz) x.b (IntKind.u8.wrap x.c) mh mh) (Nat.le_of_ble_eq_true rfl) mv mT mN ?_
    iterate 4 refine dr_act wN mb ma mc mT mR ?_
    refine dr_nil (h2 _ ?_); clear h2
    refine ev_ret ?_
    rw [b2D_4 (by assumption) (by assumption)]
    exact retL [224] (res' := [.cell 4 31, .tmp 5]) mr (.cell nT mZ ma mc mP (.tmp nT mL .nil)) rfl mr (by decide) ⟨⟨mr, (pure_map fun _ => by first | rfl | simp [pcell])⟩, trivial⟩
  have hc1 := ne_of_beq_false hc1
  refine ev_cond false mlq (fun hz => by cases hz) (fun hz => ?_)
  refine ev_seq fun K2 h2 => ?_
  refine ev_rf mB ?_
  iterate 2 refine dr_act wN mb ma mc mT mR ?_
  refine dr_nil (h2 _ ?_); clear h2
  cases hc2 : (x.t == 6)
  · have hc2 := ne_of_beq_false hc2
    refine ev_cond false mlq (fun hz => by cases hz) (fun hz => ?_)
    refine ev_skip (h1 _ ?_); clear h1
    refine ev_seq fun K1 h1 => ?_
    refine ev_rf mB ?_
    iterate 5 refine dr_act wN mb ma mc mT mR ?_
    refine dr_callF wN mr mb mx mr (c209 d.m (d.ws.getD x.a.toNat wz) x.b mh mh) (Nat.le_of_ble_eq_true rfl) mv mT mN ?_
    iterate 4 refine dr_act wN mb ma mc mT mR ?_
    refine dr_nil (h1 _ ?_); clear h1
    refine ev_ret ?_
    rw [b2D_e (by assumption) (by assumption)]
    exact retL [184] (res' := [.cell 4 31, .tmp 5]) mr (.cell nT mZ ma mc mP (.tmp nT mL .nil)) rfl mr (by decide) ⟨⟨mr, (pure_map fun _ => by first | rfl | simp [pcell])⟩, trivial⟩
  have hc2 := eq_of_beq hc2
  refine ev_cond true mlq (fun hz => ?_) (fun hz => by cases hz)
  refine ev_seq fun K2 h2 => ?_
  refine ev_seq fun K3 h3 => ?_
  refine ev_rf mB ?_
  iterate 3 refine dr_act wN mb ma mc mT mR ?_
  refine dr_callF wN mr mb mx mr (c171 d x.b mh) (Nat.le_of_ble_eq_true rfl) mv mT mN ?_
  refine dr_act wN mb ma mc mT mR ?_
  refine dr_nil (h3 _ ?_); clear h3
  cases hc3 : (decide (0 ≤ x.b ∧ x.b ≤ (d.ws.length : Int) - 1))
  · have hc3 := of_decide_eq_false hc3
    refine ev_cond true mlq (fun hz => ?_) (fun hz => by cases hz)
    refine ev_seq fun K3 h3 => ?_
    refine ev_rf mB ?_
    iterate 3 refine dr_act wN mb ma mc mT mR ?_
    refine dr_nil (h3 _ ?_); clear h3
    refine ev_weak (weak_nil 16 0 0 29 1 mr mr mr mNl (by decide : 208 < 216)) ?_
    refine ev_ret ?_
    rw [b2D_6n (by assumption) (by assumption) (by assumption)]
    exact retL [208] (res' := [.cell 4 31, .tmp 5]) mr (.cell nT mZ ma mc mP (.tmp nT mL .nil)) rfl mr (by decide) ⟨⟨mr, rfl⟩, trivial⟩
  have hc3 := of_decide_eq_true hc3
  refine ev_cond false mlq (fun hz => by cases hz) (fun hz => ?_)
  refine ev_skip (h2 _ ?_); clear h2
  refine ev_seq fun K2 h2 => ?_
  refine ev_reg mB ?_
  iterate 7 refine dr_act wN mb ma mc mT mR ?_
  refine dr_ix (wz : Win) wN mr mb ml ml mS (by omega) mT ?_
  refine dr_act wN mb ma mc mT mR ?_
  refine dr_callF wN mr mb mx mr (c208 d.m (d.ws.getD x.a.toNat wz) (d.ws.getD x.b.toNat wz) mh mh) (Nat.le_of_ble_eq_true rfl) mv mT mN ?_
  iterate 8 refine dr_act wN mb ma mc mT mR ?_
  refine dr_nil ⟨fun _ => by kernel_rfl, h2 _ ?_⟩; clear h2
  refine ev_seq fun K2 h2 => ?_
  refine ev_weak (σ' := ⟨[(2, .ptr (0, none) 0 0), (3, .ptr (8, none) 0 0), (4, .ptr (16, none) 0 0), (5, vb false), (6, .ptr (80, none) 0 0), (7, .ptr (296, none) 0 0), (9, vb ((cpO d.m (d.ws.getD x.a.toNat wz) (d.ws.getD x.b.toNat wz)).isSome))], [(0, ⟨116, 3, [[.list 1 (d.m.map cM), .list 4 (d.ws.map cW), vi d.k]]⟩), (8, ⟨120, 4, [[vi x.t, vi x.a, vi x.b, vi x.c]]⟩), (16, ⟨31, 1, [[.val (.slice none 0 0)]]⟩), (80, ⟨32, 4, [[vi ((d.ws.getD x.a.toNat wz).a), vi ((d.ws.getD x.a.toNat wz).s), vi ((d.ws.getD x.a.toNat wz).n), vi ((d.ws.getD x.a.toNat wz).c)]]⟩), (296, ⟨31, 1, [[.ref (256, none) 0 ((((cpO d.m (d.ws.getD x.a.toNat wz) (d.ws.getD x.b.toNat wz)).getD ([], 0)).1).length)]]⟩), (256, ⟨29, 1, (((cpO d.m (d.ws.getD x.a.toNat wz) (d.ws.getD x.b.toNat wz)).getD ([], 0)).1).map cR⟩)], 328⟩) (weak_ren [] mK (chkR_cons mK (chkR_cons mK (chkR_cons mK (chkR_cons mK (chkR_cons mK (chkRm rfl (by decide) rfl (fun _ => rfl) (fun a => by first | rfl | simp [okC]) trivial)))))) mD mQ) ?_
  refine ev_rf mB ?_
  iterate 4 refine dr_act wN mb ma mc mT mR ?_
  refine dr_nil (h2 _ ?_); clear h2
  refine ev_ret ?_
  rw [b2D_6 (by assumption) (by assumption) (by assumption), uM_map (α := Int), Option.isSome_map]
  exact retL [256] (res' := [.cell 4 31, .tmp 5]) mr (.cell nT mZ ma mc mP (.tmp nT mL .nil)) rfl mr (by decide) ⟨⟨mr, (pure_map fun _ => by first | rfl | simp [pcell])⟩, trivial⟩

theorem c172 (d : Dk) (x : Dl) (hd : okD d = true) (ha : 0 ≤ x.a ∧ x.a ≤ (d.ws.length : Int) - 1) : Good Try.prog 172 [eD d, eDl x] (.tup [oD 0 (hdl d x).1, vb (hdl d x).2]) [rM (hdl d x).1.m, rWS (hdl d x).1.ws] := by
  refine good_of (E := En 110) (fn := Try.f172) (by kernel_rfl) (by kernel_rfl) rfl rfl (by simp only [List.length_cons, List.length_nil]; decide) (fun C0 => ?_)
  simp only [argT, Nat.reduceAdd, eB, eM, eWS]
  have hgm := okD_g hd
  have hl1 := hgm.l4
  have hl2 := hgm.r4
  have hr := okD_r hd
  have hw : d.ws.length ≤ 1048576 := by omega
  have hWv := okD_w hd ha
  have hG := okW_GW hWv
  have g3 := hG.s0
  have g4 := hG.n0
  have g5 := hG.n1
  have g6 := hG.c1
  have g7 := hG.row
  have g8 := hG.c64
  refine ev_seq fun K1 h1 => ?_
  refine ev_rf mB ?_
  iterate 4 refine dr_act wN mb ma mc mT mR ?_
  refine dr_nil (h1 _ ?_); clear h1
  refine ev_seq fun K1 h1 => ?_
  refine ev_reg mB ?_
  refine dr_act wN mb ma mc mT mR ?_
  refine dr_callF wN mr mb mx mr (c142 d mh mh mh) (Nat.le_of_ble_eq_true rfl) mv mT mN ?_
  iterate 4 refine dr_act wN mb ma mc mT mR ?_
  refine dr_ix (wz : Win) wN mr mb ml ml mS (by omega) mT ?_
  iterate 5 refine dr_act wN mb ma mc mT mR ?_
  refine dr_nil ⟨fun _ => by kernel_rfl, h1 _ ?_⟩; clear h1
  refine ev_seq fun K1 h1 => ?_
  refine ev_seq fun K2 h2 => ?_
  refine ev_rf mB ?_
  iterate 2 refine dr_act wN mb ma mc mT mR ?_
  refine dr_nil (h2 _ ?_); clear h2
  refine ev_block ?_
  refine ev_seq fun K2 h2 => ?_
  refine ev_rf mB ?_
  iterate 2 refine dr_act wN mb ma mc mT mR ?_
  refine dr_nil (h2 _ ?_); clear h2
  cases hc1 : (x.t == 2)
  rotate_left
  · have hc1 := eq_of_beq hc1
    refine ev_cond true mlq (fun hz => ?_) (fun hz => by cases hz)
    refine ev_seq fun K2 h2 => ?_
    refine ev_rf mB ?_
    iterate 7 refine dr_act wN mb ma mc mT mR ?_
    refine dr_callF wN mr mb mx mr (c195 d.m (d.ws.getD x.a.toNat wz) x.b x.c mh mh) (Nat.le_of_ble_eq_true rfl) mv mT mN ?_
    iterate 6 refine dr_act wN mb ma mc mT mR ?_
    refine dr_nil (h2 _ ?_); clear h2
    refine ev_seq fun K2 h2 => ?_
    refine ev_rf mB ?_
    iterate 2 refine dr_act wN mb ma mc mT mR ?_
    refine dr_callR [40, 41] [] wN mr mbq mx (c170 d ((slW d.m (d.ws.getD x.a.toNat wz) x.b x.c ((d.ws.getD x.a.toNat wz).c)).getD wz) mh) (.ren rfl rfl (.ren rfl rfl .nil)) ⟨⟨_, mr, rfl, rfl, rnMap (fun _ => rfl) _, okMM⟩, ⟨_, mr, rfl, rfl, rnMap (fun _ => rfl) _, okMap (fun _ => rfl) _⟩, trivial⟩ ⟨⟨by decide, nz⟩, Nat.le_of_ble_eq_true rfl⟩ (v := .agg [.ref (40, none) 0 d.m.length, .ref (288, none) 0 ((d.ws ++ [((slW d.m (d.ws.getD x.a.toNat wz) x.b x.c ((d.ws.getD x.a.toNat wz).c)).getD wz)]).length), vi d.k]) rfl mT mRR2 ?_
    iterate 3 refine dr_act wN mb ma mc mT mR ?_
    refine dr_nil (h2 _ ?_); clear h2
    refine ev_ret ?_
    rw [hdl_2 (by assumption)]
    exact retL [40, 288] (res' := [.cell 4 116, .tmp 5]) mr (.cell nT mZ ma mc mP (.tmp nT mL .nil)) rfl mr (by decide) ⟨⟨mr, (pure_map fun _ => by first | rfl | simp [pcell])⟩, ⟨mr, (pure_map fun _ => by first | rfl | simp [pcell])⟩, trivial⟩
  have hc1 := ne_of_beq_false hc1
  refine ev_cond false mlq (fun hz => by cases hz) (fun hz => ?_)
  refine ev_seq fun K2 h2 => ?_
  refine ev_rf mB ?_
  iterate 2 refine dr_act wN mb ma mc mT mR ?_
  refine dr_nil (h2 _ ?_); clear h2
  cases hc2 : (x.t == 3)
  rotate_left
  · have hc2 := eq_of_beq hc2
    refine ev_cond true mlq (fun hz => ?_) (fun hz => by cases hz)
    refine ev_reg mB ?_
    iterate 9 refine dr_act wN mb ma mc mT mR ?_
    refine dr_callF wN mr mb mx mr (c101w (d.ws.getD x.a.toNat wz) 0 ((d.ws.getD x.a.toNat wz).n) ((d.ws.getD x.a.toNat wz).n) mh) (Nat.le_of_ble_eq_true rfl) mv mT mN ?_
    refine dr_ixp wN mr mb ml ml mr mS (by omega) (ik := x.a.toNat) (by omega) mT ?_
    refine dr_stp (r' := ⟨32, 4, (d.ws.set x.a.toNat ⟨(d.ws.getD x.a.toNat wz).a, ((d.ws.getD x.a.toNat wz).s) + 0, ((d.ws.getD x.a.toNat wz).n) - 0, ((d.ws.getD x.a.toNat wz).n) - 0⟩).map cW⟩) wN mr mb ml mr mr ml ⟨rfl, mlz⟩ mA ⟨(by rw [List.length_map]; omega), mA⟩ (set_put wz (by omega) rfl) rfl mT mR ?_
    refine dr_nil ⟨fun _ => by kernel_rfl, h1 _ ?_⟩; clear h1
    refine ev_seq fun K1 h1 => ?_
    refine ev_rf mB ?_
    iterate 3 refine dr_act wN mb ma mc mT mR ?_
    refine dr_nil (h1 _ ?_); clear h1
    refine ev_ret ?_
    rw [hdl_3 (by assumption)]
    simp only [oD, List.length_set]
    exact retL [40, 41] (res' := [.cell 4 116, .tmp 5]) mr (.cell nT mZ ma mc mP (.tmp nT mL .nil)) rfl mr (by decide) ⟨⟨mr, (pure_map fun _ => by first | rfl | simp [pcell])⟩, ⟨mr, (pure_map fun _ => by first | rfl | simp [pcell])⟩, trivial⟩
  have hc2 := ne_of_beq_false hc2
  refine ev_cond false mlq (fun hz => by cases hz) (fun hz => ?_)
  refine ev_seq fun K2 h2 => ?_
  refine ev_rf mB ?_
  iterate 2 refine dr_act wN mb ma mc mT mR ?_
  refine dr_nil (h2 _ ?_); clear h2
  cases hc3 : (x.t == 8)
  rotate_left
  · have hc3 := eq_of_beq hc3
    refine ev_cond true mlq (fun hz => ?_) (fun hz => by cases hz)
    refine ev_reg mB ?_
    iterate 4 refine dr_act wN mb ma mc mT mR ?_
    refine dr_slo (a := 0) (c := x.a) (off' := 0) (len' := x.a.toNat) wN mr mb ml mr mbn mbn mS (by omega) (by omega) mT ?_
    iterate 5 refine dr_act wN mb ma mc mT mR ?_
    rw [wrap_of (x := x.a + 1) (by omega) (by omega)]
    refine dr_slo (a := x.a + 1) (c := (d.ws.length : Int)) (off' := (x.a + 1).toNat) (len' := d.ws.length - ((x.a + 1).toNat)) wN mr mb ml mr mbn mbn mS (by omega) (by omega) mT ?_
    refine dr_apf (g := cW) d.ws (cutL d.ws ((x.a + 1).toNat) (d.ws.length - ((x.a + 1).toNat))) wN mr mb ml mr ml (els_cut mr) mA (fun _ => rfl) (by first | omega | (simp only [cutL, List.length_take, List.length_drop]; omega)) mT mR ?_
    iterate 2 refine dr_act wN mb ma mc mT mR ?_
    refine dr_nil ⟨fun _ => by kernel_rfl, h1 _ ?_⟩; clear h1
    refine ev_seq fun K1 h1 => ?_
    refine ev_rf mB ?_
    iterate 3 refine dr_act wN mb ma mc mT mR ?_
    refine dr_nil (h1 _ ?_); clear h1
    refine ev_ret ?_
    have hcl : cutL d.ws (x.a + 1).toNat (d.ws.length - (x.a + 1).toNat) = d.ws.drop (x.a + 1).toNat := cutL_tail (by omega)
    rw [hdl_8 (by assumption), ← hcl]
    exact retL [40, 280] (res' := [.cell 4 116, .tmp 5]) mr (.cell nT mZ ma mc mP (.tmp nT mL .nil)) rfl mr (by decide) ⟨⟨mr, (pure_map fun _ => by first | rfl | simp [pcell])⟩, ⟨mr, (pure_map fun _ => by first | rfl | simp [pcell])⟩, trivial⟩
  have hc3 := ne_of_beq_false hc3
  refine ev_cond false mlq (fun hz => by cases hz) (fun hz => ?_)
  refine ev_seq fun K2 h2 => ?_
  refine ev_rf mB ?_
  iterate 2 refine dr_act wN mb ma mc mT mR ?_
  refine dr_nil (h2 _ ?_); clear h2
  cases hc4 : (x.t == 5)
  · have hc4 := ne_of_beq_false hc4
    refine ev_cond false mlq (fun hz => by cases hz) (fun hz => ?_)
    refine ev_seq fun K2 h2 => ?_
    refine ev_rf mB ?_
    iterate 2 refine dr_act wN mb ma mc mT mR ?_
    refine dr_callF wN mr mb mx mr (c196 d x mh mh) (Nat.le_of_ble_eq_true rfl) mv mT mN ?_
    iterate 6 refine dr_act wN mb ma mc mT mR ?_
    refine dr_nil (h2 _ ?_); clear h2
    refine ev_seq fun K2 h2 => ?_
    refine ev_rf mB ?_
    iterate 3 refine dr_act wN mb ma mc mT mR ?_
    refine dr_nil (h2 _ ?_); clear h2
    refine ev_seq fun K2 h2 => ?_
    refine ev_rf mB ?_
    iterate 4 refine dr_act wN mb ma mc mT mR ?_
    refine dr_nil (h2 _ ?_); clear h2
    refine ev_ret ?_
    rw [hdl_e (by assumption) (by assumption) (by assumption) (by assumption)]
    exact retL [224, 41] (res' := [.cell 4 116, .tmp 5]) mr (.cell nT mZ ma mc mP (.tmp nT mL .nil)) rfl mr (by decide) ⟨⟨mr, (pure_map fun _ => by first | rfl | simp [pcell])⟩, ⟨mr, (pure_map fun _ => by first | rfl | simp [pcell])⟩, trivial⟩
  have hc4 := eq_of_beq hc4
  refine ev_cond true mlq (fun hz => ?_) (fun hz => by cases hz)
  refine ev_seq fun K2 h2 => ?_
  refine ev_seq fun K3 h3 => ?_
  refine ev_rf mB ?_
  iterate 2 refine dr_act wN mb ma mc mT mR ?_
  refine dr_callF wN mr mb mx mr (c133 x.b 0 255) (Nat.le_of_ble_eq_true rfl) mv mT mN ?_
  refine dr_act wN mb ma mc mT mR ?_
  refine dr_nil (h3 _ ?_); clear h3
  cases hc5 : (decide (0 ≤ x.b ∧ x.b ≤ 255))
  · have hc5 := of_decide_eq_false hc5
    refine ev_cond true mlq (fun hz => ?_) (fun hz => by cases hz)
    refine ev_seq fun K3 h3 => ?_
    refine ev_rf mB ?_
    iterate 3 refine dr_act wN mb ma mc mT mR ?_
    refine dr_nil (h3 _ ?_); clear h3
    refine ev_ret ?_
    rw [hdl_5n (by assumption) (by assumption)]
    exact retL [40, 41] (res' := [.cell 4 116, .tmp 5]) mr (.cell nT mZ ma mc mP (.tmp nT mL .nil)) rfl mr (by decide) ⟨⟨mr, (pure_map fun _ => by first | rfl | simp [pcell])⟩, ⟨mr, (pure_map fun _ => by first | rfl | simp [pcell])⟩, trivial⟩
  have hc5 := of_decide_eq_true hc5
  refine ev_cond false mlq (fun hz => by cases hz) (fun hz => ?_)
  refine ev_skip (h2 _ ?_); clear h2
  refine ev_seq fun K2 h2 => ?_
  refine ev_rf mB ?_
  iterate 7 refine dr_act wN mb ma mc mT mR ?_
  refine dr_call wN mr mb mx (.cons (fN rfl) (.cons (fN rfl) (.cons (.cell (fEls mr rfl rfl)) .nil))) (c184u d.m (d.ws.getD x.a.toNat wz) [IntKind.u8.wrap x.b] hG mh) (Nat.le_of_ble_eq_true rfl) mv mT mN ?_
  iterate 9 refine dr_act wN mb ma mc mT mR ?_
  refine dr_nil (h2 _ ?_); clear h2
  refine ev_seq fun K2 h2 => ?_
  refine ev_weak (σ' := ⟨[(3, .ptr (8, none) 0 0), (4, .ptr (16, none) 0 0), (5, vb false), (6, .ptr (96, none) 0 0), (10, .ptr (336, none) 0 0), (11, .ptr (344, none) 0 0), (12, vb ((apM d.m (d.ws.getD x.a.toNat wz) [IntKind.u8.wrap x.b]).isSome))], [(8, ⟨120, 4, [[vi x.t, vi x.a, vi x.b, vi x.c]]⟩), (16, ⟨116, 3, [[.val (.slice none 0 0), .val (.slice none 0 0), vi 0]]⟩), (96, ⟨116, 3, [[.ref (40, none) 0 d.m.length, .ref (41, none) 0 d.ws.length, vi d.k]]⟩), (336, ⟨31, 1, [[.ref (296, none) 0 (((uMW (apM d.m (d.ws.getD x.a.toNat wz) [IntKind.u8.wrap x.b])).1).length)]]⟩), (344, ⟨32, 4, [[vi (((uMW (apM d.m (d.ws.getD x.a.toNat wz) [IntKind.u8.wrap x.b])).2).a), vi (((uMW (apM d.m (d.ws.getD x.a.toNat wz) [IntKind.u8.wrap x.b])).2).s), vi (((uMW (apM d.m (d.ws.getD x.a.toNat wz) [IntKind.u8.wrap x.b])).2).n), vi (((uMW (apM d.m (d.ws.getD x.a.toNat wz) [IntKind.u8.wrap x.b])).2).c)]]⟩), (40, ⟨29, 1, d.m.map cR⟩), (41, ⟨32, 4, d.ws.map cW⟩), (296, ⟨29, 1, ((uMW (apM d.m (d.ws.getD x.a.toNat wz) [IntKind.u8.wrap x.b])).1).map cR⟩)], 376⟩) (weak_ren [] mK (chkR_cons mK (chkR_cons mK (chkR_cons mK (chkR_cons mK (chkR_cons mK (chkRm rfl (by decide) rfl (fun _ => rfl) (fun a => by first | rfl | simp [okC]) (chkRm rfl (by decide) rfl (fun _ => rfl) (fun a => by first | rfl | simp [okC]) (chkRm rfl (by decide) rfl (fun _ => rfl) (fun a => by first | rfl | simp [okC]) trivial)))))))) mD mQ) ?_
  refine ev_rf mB ?_
  iterate 3 refine dr_act wN mb ma mc mT mR ?_
  refine dr_nil (h2 _ ?_); clear h2
  refine ev_seq fun K2 h2 => ?_
  refine ev_rf mB ?_
  iterate 5 refine dr_act wN mb ma mc mT mR ?_
  refine dr_ixp wN mr mb ml ml mr mS (by omega) (ik := x.a.toNat) (by omega) mT ?_
  refine dr_stp (r' := ⟨32, 4, (d.ws.set x.a.toNat ((uMW (apM d.m (d.ws.getD x.a.toNat wz) [IntKind.u8.wrap x.b])).2)).map cW⟩) wN mr mb ml mr mr ml ⟨rfl, mlz⟩ mA ⟨(by rw [List.length_map]; omega), mA⟩ (set_put wz (by omega) rfl) rfl mT mR ?_
  refine dr_nil (h2 _ ?_); clear h2
  refine ev_seq fun K2 h2 => ?_
  refine ev_rf mB ?_
  iterate 4 refine dr_act wN mb ma mc mT mR ?_
  refine dr_nil (h2 _ ?_); clear h2
  refine ev_ret ?_
  rw [hdl_5 (by assumption) (by assumption)]
  simp only [oD, List.length_set]
  exact retL [296, 41] (res' := [.cell 4 116, .tmp 5]) mr (.cell nT mZ ma mc mP (.tmp nT mL .nil)) rfl mr (by decide) ⟨⟨mr, (pure_map fun _ => by first | rfl | simp [pcell])⟩, ⟨mr, (pure_map fun _ => by first | rfl | simp [pcell])⟩, trivial⟩
end Go.Ev
namespace Go.Ev
open Go Go.RowKit Go.Proofs

theorem GM.nil : GM [] := ⟨Nat.zero_le _, fun r hr => by simp at hr, fun r hr => by simp at hr⟩
theorem wrAt_GM {m : List (List Int)} {w : Win} {i b : Int} : GM (uM (wrAt m w i b)) := by
  unfold wrAt
  split
  · rename_i h
    have hG := okW_GW h.1
    have h1 := hG.a0; have h2 := hG.a1; have h3 := hG.s0; have h5 := hG.n1; have h6 := hG.c1
    exact (hG.wr (s := (w.s + i).toNat) (xs := [b]) (by simp only [List.length_cons, List.length_nil]; omega)).g
  · exact GM.nil
theorem cpO_GM {m : List (List Int)} {t f : Win} : GM ((cpO m t f).getD ([], 0)).1 := by
  unfold cpO
  split
  · rename_i h
    have hG := okW_GW h.1
    have h3 := hG.s0; have h4 := hG.n0; have h5 := hG.n1; have h6 := hG.c1
    refine (hG.wr (s := t.s.toNat) (xs := (bytesOf m f).take (lst t.n f.n).toNat) ?_).g
    rw [List.length_take]
    unfold lst
    split <;> omega
  · exact GM.nil
theorem tnO_GM {m : List (List Int)} {w : Win} {n : Int} : GM (uM (tnO m w n)) := by
  unfold tnO
  split
  · rename_i h
    have hG := okW_GW h.1
    have h3 := hG.s0; have h4 := hG.n0; have h5 := hG.n1; have h6 := hG.c1
    refine (hG.wr (s := w.s.toNat) (xs := (bytesOf m w).drop n.toNat ++ (bytesOf m w).take n.toNat) ?_).g
    simp only [List.length_append, List.length_drop, List.length_take, bytesOf_len]; omega
  · exact GM.nil
theorem apM_GM {m : List (List Int)} {w : Win} {xs : List Int} (h : GW m w) : GM (uMW (apM m w xs)).1 := by
  cases e : apM m w xs with
  | none => exact GM.nil
  | some x => obtain ⟨m', w'⟩ := x; exact (apM_GW h e).1.g
theorem nwM_sz {m : List (List Int)} {n : Int} : (uMW (nwM m n)).1.length ≤ 17 ∧ ∀ r, r ∈ (uMW (nwM m n)).1 → r.length ≤ 64 := by
  unfold nwM
  split
  · rename_i h
    have hg := okM_GM h.1
    refine ⟨by have := hg.l; simp only [uMW, Option.getD_some, List.length_append, List.length_cons, List.length_nil]; omega, fun r hr => ?_⟩
    simp only [uMW, Option.getD_some, List.mem_append, List.mem_singleton] at hr
    rcases hr with hr | rfl
    · exact hg.r r hr
    · rw [List.length_replicate]; omega
  · exact ⟨by simp [uMW], fun r hr => by simp [uMW] at hr⟩
theorem b2D_GM {d : Dk} {x : Dl} : GM (uM (b2D d x)) := by
  unfold b2D
  split
  · split
    · exact wrAt_GM
    · exact GM.nil
  · split
    · split
      · rw [uM_map (α := Int)]; exact cpO_GM
      · exact GM.nil
    · exact tnO_GM
theorem hdl_sz {d : Dk} {x : Dl} (hd : okD d = true) (ha : 0 ≤ x.a ∧ x.a ≤ (d.ws.length : Int) - 1) : GM (hdl d x).1.m ∧ (hdl d x).1.ws.length ≤ 9 ∧ (hdl d x).1.k = d.k := by
  have hg := okD_g hd
  have hr := (okD_r hd).2.1
  have hG := okW_GW (okD_w hd ha)
  unfold hdl hdD'
  split
  · exact ⟨hg, by simp only [List.length_append, List.length_cons, List.length_nil]; omega, rfl⟩
  split
  · exact ⟨hg, by simp only [List.length_set]; omega, rfl⟩
  split
  · exact ⟨hg, by simp only [List.length_append, List.length_take, List.length_drop]; obtain ⟨ha1, ha2⟩ := ha; omega, rfl⟩
  split
  · split
    · exact ⟨apM_GM hG, by simp only [List.length_set]; omega, rfl⟩
    · exact ⟨hg, by dsimp only; omega, rfl⟩
  · exact ⟨b2D_GM, by dsimp only; omega, rfl⟩
/-- The desk behind a deal, before it is looked at. -/
def preD (d : Dk) (x : Dl) : Dk × Bool := if x.t = 1 then (⟨(uMW (nwM d.m x.a)).1, d.ws ++ [(uMW (nwM d.m x.a)).2], d.k⟩, (nwM d.m x.a).isSome) else if 0 ≤ x.a ∧ x.a ≤ (d.ws.length : Int) - 1 then hdl d x else (d, false)
theorem preD_sz {d : Dk} {x : Dl} (hd : okD d = true) : (preD d x).1.m.length ≤ 17 ∧ (∀ r, r ∈ (preD d x).1.m → r.length ≤ 64) ∧ (preD d x).1.ws.length ≤ 9 ∧ (preD d x).1.k = d.k := by
  have hg := okD_g hd
  have hr := (okD_r hd).2.1
  unfold preD
  split
  · exact ⟨nwM_sz.1, nwM_sz.2, by simp only [List.length_append, List.length_cons, List.length_nil]; omega, rfl⟩
  split
  · rename_i h1 h
    obtain ⟨h1, h2, h3⟩ := hdl_sz hd h
    exact ⟨by have := h1.l; omega, h1.r, h2, h3⟩
  · exact ⟨by have := hg.l; dsimp only; omega, hg.r, by dsimp only; omega, rfl⟩
def incD (d : Dk) (x : Dl) : Dk := ⟨(preD d x).1.m, (preD d x).1.ws, d.k + 1⟩
def okP (d : Dk) (x : Dl) : Bool := (preD d x).2 && (plainD x && decide (1 ≤ x.t ∧ x.t ≤ 8))
theorem okP_eq {d : Dk} {x : Dl} (h1 : plainD x = true) (h2 : 1 ≤ x.t ∧ x.t ≤ 8) : okP d x = (preD d x).2 := by rw [okP, h1, decide_eq_true h2]; simp
def doD (d : Dk) (x : Dl) : Option Dk := if okP d x = true ∧ okD (incD d x) = true then some (incD d x) else none
abbrev uD (o : Option Dk) : Dk := o.getD ⟨[], [], 0⟩
theorem okD_sz {d : Dk} (h : okD d = true) : d.m.length ≤ 1048576 ∧ (∀ r, r ∈ d.m → r.length ≤ 1048576) ∧ d.ws.length ≤ 1048576 := ⟨(okD_g h).l4, (okD_g h).r4, by have := (okD_r h).2.1; omega⟩
theorem doD_n1 {d : Dk} {x : Dl} (h : plainD x = false) : doD d x = none := if_neg fun k => by simp [okP, h] at k
theorem doD_n2 {d : Dk} {x : Dl} (h : ¬ (1 ≤ x.t ∧ x.t ≤ 8)) : doD d x = none := if_neg fun k => by simp only [okP, decide_eq_false h, Bool.and_false] at k; cases k.1
theorem doD_n3 {d : Dk} {x : Dl} (h : okP d x = false) : doD d x = none := if_neg fun k => by rw [h] at k; cases k.1
theorem doD_n4 {d : Dk} {x : Dl} (h : okD ⟨(preD d x).1.m, (preD d x).1.ws, d.k + 1⟩ = false) : doD d x = none := if_neg fun k => by
  have := k.2
  rw [incD, h] at this; cases this

theorem c138 (d : Dk) (x : Dl) (hd : okD d = true) : Good Try.prog 138 [eD d, eDl x] (.tup [oD 0 (uD (doD d x)), vb (doD d x).isSome]) [rM (uD (doD d x)).m, rWS (uD (doD d x)).ws] := by
  refine good_of (E := En 68) (fn := Try.f138) (by kernel_rfl) (by kernel_rfl) rfl rfl (by simp only [List.length_cons, List.length_nil]; decide) (fun C0 => ?_)
  simp only [argT, Nat.reduceAdd, eB, eM, eWS]
  have hgm := okD_g hd
  have hl1 := hgm.l4
  have hl2 := hgm.r4
  have hr := okD_r hd
  have hw : d.ws.length ≤ 1048576 := by omega
  have hsz := preD_sz (x := x) hd
  have hsz1 := hsz.1
  have hsz2 : ∀ r, r ∈ (preD d x).1.m → r.length ≤ 1048576 := fun r h => by have := hsz.2.1 r h; omega
  have hsz3 := hsz.2.2.1
  have hsz4 := hsz.2.2.2
  refine ev_seq fun K1 h1 => ?_
  refine ev_rf mB ?_
  iterate 4 refine dr_act wN mb ma mc mT mR ?_
  refine dr_nil (h1 _ ?_); clear h1
  refine ev_seq fun K1 h1 => ?_
  refine ev_rf mB ?_
  refine dr_act wN mb ma mc mT mR ?_
  refine dr_callF wN mr mb mx mr (c142 d (by first | exact hl1 | (dsimp only; omega)) (by first | exact hl2 | exact hsz2) (by first | exact hw | (dsimp only; omega))) (Nat.le_of_ble_eq_true rfl) mv mT mN ?_
  iterate 3 refine dr_act wN mb ma mc mT mR ?_
  refine dr_nil (h1 _ ?_); clear h1
  refine ev_cut ⟨[(2, .ptr (0, none) 0 0), (4, .ptr (16, none) 0 0), (5, vb false), (6, .ptr (48, none) 0 0), (7, vb (okP d x))], [(0, ⟨116, 3, [[.list 1 (d.m.map cM), .list 4 (d.ws.map cW), vi d.k]]⟩), (16, ⟨116, 3, [[.val (.slice none 0 0), .val (.slice none 0 0), vi 0]]⟩), (48, ⟨116, 3, [[.ref (40, none) 0 (((preD d x).1.m).length), .ref (41, none) 0 (((preD d x).1.ws).length), vi ((preD d x).1.k)]]⟩), (40, ⟨29, 1, ((preD d x).1.m).map cR⟩), (41, ⟨32, 4, ((preD d x).1.ws).map cW⟩)], 368⟩ ?_ ?_
  · refine ev_block ?_
    refine ev_seq fun K1 h1 => ?_
    refine ev_rf mB ?_
    refine dr_act wN mb ma mc mT mR ?_
    refine dr_callF wN mr mb mx mr (c168 x) (Nat.le_of_ble_eq_true rfl) mv mT mN ?_
    iterate 2 refine dr_act wN mb ma mc mT mR ?_
    cases hc1 : (plainD x)
    · iterate 4 refine dr_skip wG mT ?_
      iterate 2 refine dr_act wN mb ma mc mT mR ?_
      refine dr_nil (h1 _ ?_); clear h1
      refine ev_cond true mlq (fun hz => ?_) (fun hz => by cases hz)
      refine ev_seq fun K1 h1 => ?_
      refine ev_rf mB ?_
      iterate 3 refine dr_act wN mb ma mc mT mR ?_
      refine dr_nil (h1 _ ?_); clear h1
      refine ev_weak (weak_nil 16 0 0 29 1 mr mr mr mNl (by decide : 176 < 184)) ?_
      refine ev_weak (weak_nil 16 0 1 32 4 mr mr mr mNl (by decide : 184 < 192)) ?_
      refine ev_ret ?_
      rw [show doD d x = none from doD_n1 (by assumption)]
      exact retL [176, 184] (res' := [.cell 4 116, .tmp 5]) mr (.cell nT mZ ma mc mP (.tmp nT mL .nil)) rfl mr (by decide) ⟨⟨mr, rfl⟩, ⟨mr, rfl⟩, trivial⟩
    iterate 2 refine dr_act wG mb ma mc mT mR ?_
    refine dr_callF wG mr mb mx mr (c133 x.t 1 8) (Nat.le_of_ble_eq_true rfl) mv mT mN ?_
    refine dr_act wG mb ma mc mT mR ?_
    iterate 2 refine dr_act wN mb ma mc mT mR ?_
    refine dr_nil (h1 _ ?_); clear h1
    cases hc2 : (decide (1 ≤ x.t ∧ x.t ≤ 8))
    · have hc2 := of_decide_eq_false hc2
      refine ev_cond true mlq (fun hz => ?_) (fun hz => by cases hz)
      refine ev_seq fun K1 h1 => ?_
      refine ev_rf mB ?_
      iterate 3 refine dr_act wN mb ma mc mT mR ?_
      refine dr_nil (h1 _ ?_); clear h1
      refine ev_weak (weak_nil 16 0 0 29 1 mr mr mr mNl (by decide : 176 < 184)) ?_
      refine ev_weak (weak_nil 16 0 1 32 4 mr mr mr mNl (by decide : 184 < 192)) ?_
      refine ev_ret ?_
      rw [show doD d x = none from doD_n2 (by assumption)]
      exact retL [176, 184] (res' := [.cell 4 116, .tmp 5]) mr (.cell nT mZ ma mc mP (.tmp nT mL .nil)) rfl mr (by decide) ⟨⟨mr, rfl⟩, ⟨mr, rfl⟩, trivial⟩
    have hc2 := of_decide_eq_true hc2
    refine ev_cond false mlq (fun hz => by cases hz) (fun hz => ?_)
    refine ev_seq fun K1 h1 => ?_
    refine ev_rf mB ?_
    iterate 4 refine dr_act wN mb ma mc mT mR ?_
    refine dr_nil (h1 _ ?_); clear h1
    cases hc3 : (x.t == 1)
    · have hc3 := ne_of_beq_false hc3
      refine ev_cond false mlq (fun hz => by cases hz) (fun hz => ?_)
      refine ev_seq fun K1 h1 => ?_
      refine ev_rf mB ?_
      iterate 3 refine dr_act wN mb ma mc mT mR ?_
      refine dr_callF wN mr mb mx mr (c171 d x.a mh) (Nat.le_of_ble_eq_true rfl) mv mT mN ?_
      refine dr_act wN mb ma mc mT mR ?_
      refine dr_nil (h1 _ ?_); clear h1
      cases hc4 : (decide (0 ≤ x.a ∧ x.a ≤ (d.ws.length : Int) - 1))
      · have hc4 := of_decide_eq_false hc4
        refine ev_cond false mlq (fun hz => by cases hz) (fun hz => ?_)
        refine ev_skip (?_)
        have hpe : preD d x = (d, false) := by simp [preD, *]
        rw [okP_eq (by assumption) (by assumption), hpe]
        exact weak_ren [] mK (chkR_cons mK (chkR_cons mK (chkR_cons mK (chkRm rfl (by decide) rfl (fun _ => rfl) (fun a => by first | rfl | simp [okC]) (chkRm rfl (by decide) rfl (fun _ => rfl) (fun a => by first | rfl | simp [okC]) trivial))))) mD mQ
      have hc4 := of_decide_eq_true hc4
      refine ev_cond true mlq (fun hz => ?_) (fun hz => by cases hz)
      refine ev_rf mB ?_
      iterate 2 refine dr_act wN mb ma mc mT mR ?_
      refine dr_callF wN mr mb mx mr (c172 d x mh mh) (Nat.le_of_ble_eq_true rfl) mv mT mN ?_
      iterate 5 refine dr_act wN mb ma mc mT mR ?_
      refine dr_nil ?_
      have hpe : preD d x = hdl d x := by simp [preD, *]
      rw [okP_eq (by assumption) (by assumption), hpe]
      exact weak_ren [(40, 240), (41, 241)] mK (chkR_cons mK (chkR_cons mK (chkR_cons mK (chkRm rfl (by decide) rfl (fun _ => rfl) (fun a => by first | rfl | simp [okC]) (chkRm rfl (by decide) rfl (fun _ => rfl) (fun a => by first | rfl | simp [okC]) trivial))))) mD mQ
    have hc3 := eq_of_beq hc3
    refine ev_cond true mlq (fun hz => ?_) (fun hz => by cases hz)
    refine ev_seq fun K1 h1 => ?_
    refine ev_rf mB ?_
    iterate 4 refine dr_act wN mb ma mc mT mR ?_
    refine dr_callF wN mr mb mx mr (c169 d.m x.a mh mh) (Nat.le_of_ble_eq_true rfl) mv mT mN ?_
    iterate 9 refine dr_act wN mb ma mc mT mR ?_
    refine dr_nil (h1 _ ?_); clear h1
    refine ev_seq fun K1 h1 => ?_
    refine ev_rf mB ?_
    iterate 2 refine dr_act wN mb ma mc mT mR ?_
    refine dr_callR [40, 41] [] wN mr mbq mx (c170 d ((uMW (nwM d.m x.a)).2) mh) (.ren rfl rfl (.ren rfl rfl .nil)) ⟨⟨_, mr, rfl, rfl, rnMap (fun _ => rfl) _, okMM⟩, ⟨_, mr, rfl, rfl, rnMap (fun _ => rfl) _, okMap (fun _ => rfl) _⟩, trivial⟩ ⟨⟨by decide, nz⟩, Nat.le_of_ble_eq_true rfl⟩ (v := .agg [.ref (40, none) 0 d.m.length, .ref (312, none) 0 ((d.ws ++ [((uMW (nwM d.m x.a)).2)]).length), vi d.k]) rfl mT mRR2 ?_
    refine dr_act wN mb ma mc mT mR ?_
    refine dr_nil (h1 _ ?_); clear h1
    refine ev_seq fun K1 h1 => ?_
    refine ev_rf mB ?_
    iterate 3 refine dr_act wN mb ma mc mT mR ?_
    refine dr_nil (h1 _ ?_); clear h1
    refine ev_weak (σ' := ⟨[(2, .ptr (0, none) 0 0), (4, .ptr (16, none) 0 0), (5, vb false), (6, .ptr (48, none) 0 0), (7, vb false), (10, vb ((nwM d.m x.a).isSome))], [(0, ⟨116, 3, [[.list 1 (d.m.map cM), .list 4 (d.ws.map cW), vi d.k]]⟩), (16, ⟨116, 3, [[.val (.slice none 0 0), .val (.slice none 0 0), vi 0]]⟩), (48, ⟨116, 3, [[.ref (216, none) 0 (((uMW (nwM d.m x.a)).1).length), .ref (312, none) 0 ((d.ws ++ [((uMW (nwM d.m x.a)).2)]).length), vi d.k]]⟩), (216, ⟨29, 1, ((uMW (nwM d.m x.a)).1).map cR⟩), (312, ⟨32, 4, (d.ws ++ [((uMW (nwM d.m x.a)).2)]).map cW⟩)], 352⟩) (weak_ren [] mK (chkR_cons mK (chkR_cons mK (chkR_cons mK (chkRm rfl (by decide) rfl (fun _ => rfl) (fun a => by first | rfl | simp [okC]) (chkRm rfl (by decide) rfl (fun _ => rfl) (fun a => by first | rfl | simp [okC]) trivial))))) mD mQ) ?_
    refine ev_rf mB ?_
    iterate 2 refine dr_act wN mb ma mc mT mR ?_
    refine dr_nil ?_
    have hpe : preD d x = (⟨(uMW (nwM d.m x.a)).1, d.ws ++ [(uMW (nwM d.m x.a)).2], d.k⟩, (nwM d.m x.a).isSome) := by simp [preD, *]
    rw [okP_eq (by assumption) (by assumption), hpe]
    exact weak_ren [(40, 216), (41, 312)] mK (chkR_cons mK (chkR_cons mK (chkR_cons mK (chkRm rfl (by decide) rfl (fun _ => rfl) (fun a => by first | rfl | simp [okC]) (chkRm rfl (by decide) rfl (fun _ => rfl) (fun a => by first | rfl | simp [okC]) trivial))))) mD mQ
  refine ev_seq fun K1 h1 => ?_
  refine ev_rf mB ?_
  iterate 3 refine dr_act wN mb ma mc mT mR ?_
  rw [wrap_of (x := d.k + 1) (by omega) (by omega)]
  iterate 2 refine dr_act wN mb ma mc mT mR ?_
  refine dr_nil (h1 _ ?_); clear h1
  refine ev_seq fun K1 h1 => ?_
  refine ev_seq fun K2 h2 => ?_
  refine ev_rf mB ?_
  iterate 3 refine dr_act wN mb ma mc mT mR ?_
  cases hc5 : (okP d x)
  · iterate 3 refine dr_skip wG mT ?_
    refine dr_act wN mb ma mc mT mR ?_
    refine dr_nil (h2 _ ?_); clear h2
    refine ev_cond true mlq (fun hz => ?_) (fun hz => by cases hz)
    refine ev_seq fun K2 h2 => ?_
    refine ev_rf mB ?_
    iterate 3 refine dr_act wN mb ma mc mT mR ?_
    refine dr_nil (h2 _ ?_); clear h2
    refine ev_weak (weak_nil 16 0 0 29 1 mr mr mr mNl (by decide : 488 < 496)) ?_
    refine ev_weak (weak_nil 16 0 1 32 4 mr mr mr mNl (by decide : 496 < 504)) ?_
    refine ev_ret ?_
    rw [show doD d x = none from doD_n3 (by assumption)]
    exact retL [488, 496] (res' := [.cell 4 116, .tmp 5]) mr (.cell nT mZ ma mc mP (.tmp nT mL .nil)) rfl mr (by decide) ⟨⟨mr, rfl⟩, ⟨mr, rfl⟩, trivial⟩
  refine dr_act wG mb ma mc mT mR ?_
  refine dr_call wG mr mb mx (.cons (.agg (.cons (fM mr rfl) (.cons (fWS mr rfl) (.cons (fn rfl) .nil)))) .nil) (c137 ⟨(preD d x).1.m, (preD d x).1.ws, d.k + 1⟩ (by first | exact hl1 | (dsimp only; omega)) (by first | exact hl2 | exact hsz2) (by first | exact hw | (dsimp only; omega))) (Nat.le_of_ble_eq_true rfl) mv mT mN ?_
  refine dr_act wG mb ma mc mT mR ?_
  refine dr_act wN mb ma mc mT mR ?_
  refine dr_nil (h2 _ ?_); clear h2
  cases hc6 : (okD ⟨(preD d x).1.m, (preD d x).1.ws, d.k + 1⟩)
  · refine ev_cond true mlq (fun hz => ?_) (fun hz => by cases hz)
    refine ev_seq fun K2 h2 => ?_
    refine ev_rf mB ?_
    iterate 3 refine dr_act wN mb ma mc mT mR ?_
    refine dr_nil (h2 _ ?_); clear h2
    refine ev_weak (weak_nil 16 0 0 29 1 mr mr mr mNl (by decide : 488 < 496)) ?_
    refine ev_weak (weak_nil 16 0 1 32 4 mr mr mr mNl (by decide : 496 < 504)) ?_
    refine ev_ret ?_
    rw [show doD d x = none from doD_n4 (by assumption)]
    exact retL [488, 496] (res' := [.cell 4 116, .tmp 5]) mr (.cell nT mZ ma mc mP (.tmp nT mL .nil)) rfl mr (by decide) ⟨⟨mr, rfl⟩, ⟨mr, rfl⟩, trivial⟩
  refine ev_cond false mlq (fun hz => by cases hz) (fun hz => ?_)
  refine ev_skip (h1 _ ?_); clear h1
  refine ev_seq fun K1 h1 => ?_
  refine ev_rf mB ?_
  refine dr_act wN mb ma mc mT mR ?_
  refine dr_call wN mr mb mx (.cons (.agg (.cons (fM mr rfl) (.cons (fWS mr rfl) (.cons (fn rfl) .nil)))) .nil) (c142 ⟨(preD d x).1.m, (preD d x).1.ws, d.k + 1⟩ (by first | exact hl1 | (dsimp only; omega)) (by first | exact hl2 | exact hsz2) (by first | exact hw | (dsimp only; omega))) (Nat.le_of_ble_eq_true rfl) mv mT mN ?_
  iterate 2 refine dr_act wN mb ma mc mT mR ?_
  refine dr_nil (h1 _ ?_); clear h1
  refine ev_ret ?_
  rw [show doD d x = some (incD d x) from by simp only [doD]; exact if_pos ⟨by assumption, by assumption⟩]
  exact retL [472, 473] (res' := [.cell 4 116, .tmp 5]) mr (.cell nT mZ ma mc mP (.tmp nT mL .nil)) rfl mr (by decide) ⟨⟨mr, (pure_map fun _ => by first | rfl | simp [pcell])⟩, ⟨mr, (pure_map fun _ => by first | rfl | simp [pcell])⟩, trivial⟩
end Go.Ev
namespace Go.Ev
open Go Go.RowKit Go.Proofs

theorem c183x (ws : List Win) (i j : Int) (h : 0 ≤ i ∧ i < j ∧ j ≤ ws.length) (hw : ws.length ≤ 1048576) : GoodR Try.prog 183 [.ref (0, none) 0 ws.length, vi i, vi j] [rWS ws] (.ref (1, none) 0 (ws.take i.toNat ++ ws.drop j.toNat).length) [none, some (rWS (ws.take i.toNat ++ ws.drop j.toNat))] := by
  refine goodR_of (E := En 33 1) (fn := Try.f183) (by kernel_rfl) (by kernel_rfl) rfl rfl (by simp only [List.length_cons, List.length_nil]; decide) ⟨rfl, by simp only [List.length_cons, List.length_nil]; decide⟩ rfl ⟨(okMap (fun _ => by first | rfl | simp [okC]) _), trivial⟩ (fun C0 => ?_)
  simp only [argT, rsT, Nat.reduceAdd, List.length_cons, List.length_nil, eB, eM, eWS]
  have hcl : cutL ws j.toNat (ws.length - j.toNat) = ws.drop j.toNat := cutL_tail (by omega)
  have hdl : (ws.drop j.toNat).length = ws.length - j.toNat := List.length_drop
  refine ev_seq fun K1 h1 => ?_
  refine ev_rf mB ?_
  refine dr_act wN mb ma mc mT mR ?_
  refine dr_nil (h1 _ ?_); clear h1
  refine ev_seq fun K1 h1 => ?_
  refine ev_rf mB ?_
  iterate 5 refine dr_act wN mb ma mc mT mR ?_
  refine dr_sl3 wN mr mb ml mr ml ml ml mA (by omega) mT ?_
  refine dr_nil (h1 _ ?_); clear h1
  refine ev_seq fun K1 h1 => ?_
  refine ev_seq fun K2 h2 => ?_
  refine ev_rf mB ?_
  iterate 3 refine dr_act wN mb ma mc mT mR ?_
  refine dr_nil (h2 _ ?_); clear h2
  cases hc1 : (i == j)
  rotate_left
  · have hc1 := eq_of_beq hc1
    exact (by omega : False).elim
  have hc1 := ne_of_beq_false hc1
  refine ev_cond false mlq (fun hz => by cases hz) (fun hz => ?_)
  refine ev_skip (h1 _ ?_); clear h1
  refine ev_seq fun K1 h1 => ?_
  refine ev_rf mB ?_
  iterate 3 refine dr_act wN mb ma mc mT mR ?_
  refine dr_nil (h1 _ ?_); clear h1
  refine ev_seq fun K1 h1 => ?_
  refine ev_reg mB ?_
  iterate 2 refine dr_act wN mb ma mc mT mR ?_
  refine dr_slo (a := 0) (c := i) (off' := 0) (len' := i.toNat) wN mr mb ml mr mbn mbn mS (by omega) (by omega) mT ?_
  iterate 2 refine dr_act wN mb ma mc mT mR ?_
  refine dr_slo (a := j) (c := (ws.length : Int)) (off' := j.toNat) (len' := ws.length - j.toNat) wN mr mb ml mr mbn mbn mS (by omega) (by omega) mT ?_
  refine dr_api (g := cW) ws (cutL ws j.toNat (ws.length - j.toNat)) wN mr mb ml mr ml (els_cut mr) mA (fun _ => rfl) (by rw [hcl, hdl]; omega) mT mR ?_
  rw [hcl]
  have hxl : (ws.take i.toNat ++ ws.drop j.toNat ++ ws.drop (i.toNat + (ws.drop j.toNat).length)).length = ws.length := by simp only [List.length_append, List.length_take, List.length_drop]; omega
  refine dr_act wN mb ma mc mT mR ?_
  refine dr_nil ⟨fun _ => by kernel_rfl, h1 _ ?_⟩; clear h1
  refine ev_seq fun K1 h1 => ?_
  refine ev_rf mB ?_
  iterate 4 refine dr_act wN mb ma mc mT mR ?_
  refine dr_slx (ys := (ws.take i.toNat ++ ws.drop j.toNat ++ ws.drop (i.toNat + (ws.drop j.toNat).length))) (off' := i.toNat + (ws.drop j.toNat).length) (len' := ws.length - (i.toNat + (ws.drop j.toNat).length)) wN mr mb ml mr ml ml mA (by rw [hxl]; omega) (by omega) mT ?_
  refine dr_clr (g := cW) (ws.take i.toNat ++ ws.drop j.toNat ++ ws.drop (i.toNat + (ws.drop j.toNat).length)) wz wN mr mb ml mr mA mr (by rw [hxl]; omega) mT mR ?_
  refine dr_nil (h1 _ ?_); clear h1
  refine ev_seq fun K1 h1 => ?_
  refine ev_rf mB ?_
  iterate 2 refine dr_act wN mb ma mc mT mR ?_
  refine dr_nil (h1 _ ?_); clear h1
  have hpr : (((ws.take i.toNat ++ ws.drop j.toNat ++ ws.drop (i.toNat + (ws.drop j.toNat).length)).take (i.toNat + (ws.drop j.toNat).length) ++ List.replicate (ws.length - (i.toNat + (ws.drop j.toNat).length)) wz ++ (ws.take i.toNat ++ ws.drop j.toNat ++ ws.drop (i.toNat + (ws.drop j.toNat).length)).drop ((i.toNat + (ws.drop j.toNat).length) + (ws.length - (i.toNat + (ws.drop j.toNat).length)))).map cW).take (ws.take i.toNat ++ ws.drop j.toNat).length = (ws.take i.toNat ++ ws.drop j.toNat).map cW := by rw [show (ws.take i.toNat ++ ws.drop j.toNat ++ ws.drop (i.toNat + (ws.drop j.toNat).length)).take (i.toNat + (ws.drop j.toNat).length) ++ List.replicate (ws.length - (i.toNat + (ws.drop j.toNat).length)) wz ++ (ws.take i.toNat ++ ws.drop j.toNat ++ ws.drop (i.toNat + (ws.drop j.toNat).length)).drop ((i.toNat + (ws.drop j.toNat).length) + (ws.length - (i.toNat + (ws.drop j.toNat).length))) = _ from (del_eq h).symm, ← List.map_take, List.take_left]
  have hk : i.toNat + (ws.drop j.toNat).length = (ws.take i.toNat ++ ws.drop j.toNat).length := by simp only [List.length_append, List.length_take]; omega
  refine ev_weak (σ' := ⟨[(6, .ref (0, none) 0 (i.toNat + (ws.drop j.toNat).length))], [(0, ⟨32, 4, ((ws.take i.toNat ++ ws.drop j.toNat ++ ws.drop (i.toNat + (ws.drop j.toNat).length)).take (i.toNat + (ws.drop j.toNat).length) ++ List.replicate (ws.length - (i.toNat + (ws.drop j.toNat).length)) wz ++ (ws.take i.toNat ++ ws.drop j.toNat ++ ws.drop (i.toNat + (ws.drop j.toNat).length)).drop ((i.toNat + (ws.drop j.toNat).length) + (ws.length - (i.toNat + (ws.drop j.toNat).length)))).map cW⟩)], 233⟩) (weak_ren [] mK (chkRm rfl (by decide) rfl (fun _ => rfl) (fun a => by first | rfl | simp [okC]) trivial) mD mQ) ?_
  refine ev_weak (σ' := ⟨[(6, .ref (233, none) 0 (ws.take i.toNat ++ ws.drop j.toNat).length)], [(233, ⟨32, 4, (ws.take i.toNat ++ ws.drop j.toNat).map cW⟩)], 241⟩) (weak_pre 0 (ws.take i.toNat ++ ws.drop j.toNat).length (r := ⟨32, 4, ((ws.take i.toNat ++ ws.drop j.toNat ++ ws.drop (i.toNat + (ws.drop j.toNat).length)).take (i.toNat + (ws.drop j.toNat).length) ++ List.replicate (ws.length - (i.toNat + (ws.drop j.toNat).length)) wz ++ (ws.take i.toNat ++ ws.drop j.toNat ++ ws.drop (i.toNat + (ws.drop j.toNat).length)).drop ((i.toNat + (ws.drop j.toNat).length) + (ws.length - (i.toNat + (ws.drop j.toNat).length)))).map cW⟩) rfl (by rw [hk]; simp [preC]) (by rw [preR, hpr]; rfl) (by decide)) ?_
  refine ev_ret ?_
  exact retLR [233] (res' := [.tmp 6]) mr (.tmp nT mL .nil) rfl ⟨by decide, by decide⟩ rfl ⟨⟨_, mr, rfl, rfl, rnMap (fun _ => rfl) _⟩, trivial⟩
end Go.Ev
namespace Go.Ev
open Go Go.RowKit Go.Proofs

theorem preD_1 {d : Dk} {x : Dl} (h : x.t = 1) : preD d x = (⟨(uMW (nwM d.m x.a)).1, d.ws ++ [(uMW (nwM d.m x.a)).2], d.k⟩, (nwM d.m x.a).isSome) := by rw [preD, if_pos h]
theorem preD_h {d : Dk} {x : Dl} (h : x.t ≠ 1) (ha : 0 ≤ x.a ∧ x.a ≤ (d.ws.length : Int) - 1) : preD d x = hdl d x := by rw [preD, if_neg h, if_pos ha]
theorem preD_n {d : Dk} {x : Dl} (h : x.t ≠ 1) (ha : ¬ (0 ≤ x.a ∧ x.a ≤ (d.ws.length : Int) - 1)) : preD d x = (d, false) := by rw [preD, if_neg h, if_neg ha]
section
variable {d : Dk} {x : Dl}
theorem pd4 (h : x.t = 4) (ha : 0 ≤ x.a ∧ x.a ≤ (d.ws.length : Int) - 1) (hc : 0 ≤ x.c ∧ x.c ≤ 255) : preD d x = (⟨uM (wrAt d.m (d.ws.getD x.a.toNat wz) x.b (IntKind.u8.wrap x.c)), d.ws, d.k⟩, (wrAt d.m (d.ws.getD x.a.toNat wz) x.b (IntKind.u8.wrap x.c)).isSome) := by rw [preD_h (by omega) ha, hdl_e (by omega) (by omega) (by omega) (by omega), b2D_4 h hc]
theorem pd4n (h : x.t = 4) (ha : 0 ≤ x.a ∧ x.a ≤ (d.ws.length : Int) - 1) (hc : ¬ (0 ≤ x.c ∧ x.c ≤ 255)) : preD d x = (⟨[], d.ws, d.k⟩, false) := by rw [preD_h (by omega) ha, hdl_e (by omega) (by omega) (by omega) (by omega), b2D_4n h hc]; rfl
theorem pd6 (h : x.t = 6) (ha : 0 ≤ x.a ∧ x.a ≤ (d.ws.length : Int) - 1) (hc : 0 ≤ x.b ∧ x.b ≤ (d.ws.length : Int) - 1) : preD d x = (⟨((cpO d.m (d.ws.getD x.a.toNat wz) (d.ws.getD x.b.toNat wz)).getD ([], 0)).1, d.ws, d.k⟩, (cpO d.m (d.ws.getD x.a.toNat wz) (d.ws.getD x.b.toNat wz)).isSome) := by rw [preD_h (by omega) ha, hdl_e (by omega) (by omega) (by omega) (by omega), b2D_6 (by omega) h hc, uM_map (α := Int), Option.isSome_map]
theorem pd6n (h : x.t = 6) (ha : 0 ≤ x.a ∧ x.a ≤ (d.ws.length : Int) - 1) (hc : ¬ (0 ≤ x.b ∧ x.b ≤ (d.ws.length : Int) - 1)) : preD d x = (⟨[], d.ws, d.k⟩, false) := by rw [preD_h (by omega) ha, hdl_e (by omega) (by omega) (by omega) (by omega), b2D_6n (by omega) h hc]; rfl
theorem pd7 (h : x.t = 7) (ha : 0 ≤ x.a ∧ x.a ≤ (d.ws.length : Int) - 1) : preD d x = (⟨uM (tnO d.m (d.ws.getD x.a.toNat wz) x.b), d.ws, d.k⟩, (tnO d.m (d.ws.getD x.a.toNat wz) x.b).isSome) := by rw [preD_h (by omega) ha, hdl_e (by omega) (by omega) (by omega) (by omega), b2D_e (by omega) (by omega)]
variable {m : List (List Int)} {ws : List Win} {k : Int} {b : Bool}
theorem doD_some (h1 : isOnlyD x = true) (h2 : 1 ≤ x.t ∧ x.t ≤ 8) (h3 : preD d x = (⟨m, ws, k⟩, b)) (h4 : b = true) (h5 : okD ⟨m, ws, d.k + 1⟩ = true) : doD d x = some ⟨m, ws, d.k + 1⟩ := by
  rw [isOnly_plain x (by omega)] at h1
  have e : incD d x = ⟨m, ws, d.k + 1⟩ := by rw [incD, h3]
  rw [doD, okP_eq h1 h2, h3, e, if_pos ⟨h4, h5⟩]
theorem sz_of (hd : okD d = true) (h3 : preD d x = (⟨m, ws, k⟩, b)) : m.length ≤ 1048576 ∧ (∀ r, r ∈ m → r.length ≤ 1048576) ∧ ws.length ≤ 1048576 := by
  obtain ⟨h1, h2, h4, h5⟩ := preD_sz (x := x) hd
  rw [h3] at h1 h2 h4
  exact ⟨by dsimp only at h1; omega, fun r hr => by have := h2 r hr; omega, by dsimp only at h4; omega⟩
theorem doD_z1 (h1 : isOnlyD x = false) : doD d x = none := by
  by_cases h2 : 1 ≤ x.t ∧ x.t ≤ 8
  · exact doD_n1 (by rw [← isOnly_plain x (by omega)]; exact h1)
  · exact doD_n2 h2
theorem doD_z2 (h3 : preD d x = (⟨m, ws, k⟩, b)) (h4 : b = false) : doD d x = none := doD_n3 (by rw [okP, h3, h4]; rfl)
theorem doD_z3 (h3 : preD d x = (⟨m, ws, k⟩, b)) (h5 : okD ⟨m, ws, d.k + 1⟩ = false) : doD d x = none := doD_n4 (by rw [h3]; exact h5)
theorem doD_z4 (h : x.t ≠ 1) (ha : ¬ (0 ≤ x.a ∧ x.a ≤ (d.ws.length : Int) - 1)) : doD d x = none := doD_z2 (preD_n h ha) rfl
end
def rD : Option Dk → List (Option Root)
  | some d => [some ⟨116, 3, [[.ref (3, none) 0 d.m.length, .ref (4, none) 0 d.ws.length, vi d.k]]⟩, none, none, some (rM d.m), some (rWS d.ws)]
  | none => [none, none, none]
theorem rD_ok : ∀ {o : Option Dk}, okRs (rD o).length (rD o)
  | some d => ⟨rfl, (okMap (fun _ => by first | rfl | simp [okC]) _), (okMap (fun _ => by first | rfl | simp [okC]) _), trivial⟩
  | none => trivial
theorem rD_len : ∀ {o : Option Dk}, 3 ≤ (rD o).length
  | some d => by simp only [rD, List.length_cons, List.length_nil]; decide
  | none => Nat.le_refl _
theorem rtB {R : Rs} {i : Nat} {ρ : Nat → Nat} {r r0 : Root} (h : R (ρ i) = some r0) (e : r0 = ⟨r.ty, r.sz, r.els.map (·.map (rnC ρ))⟩) : ∃ r0, R (ρ i) = some r0 ∧ r0.ty = r.ty ∧ r0.sz = r.sz ∧ r0.els = r.els.map (·.map (rnC ρ)) := by subst e; exact ⟨_, h, rfl, rfl, rfl⟩
theorem okV_b {n : Nat} {b : Bool} : okV false n (vb b) = true := rfl
theorem slW_all {m : List (List Int)} {w : Win} (h : okW m w = true) : slW m w 0 w.n w.n = some ⟨w.a, w.s + 0, w.n - 0, w.n - 0⟩ := by
  have hG := okW_GW h
  have h4 := hG.n0; have h5 := hG.n1
  exact if_pos ⟨h, by omega, by omega, by omega, by omega⟩
theorem c177k (m : List (List Int)) (w : Win) (hk : okW m w = true) (hl1 : m.length ≤ 1048576) (hl2 : ∀ r, r ∈ m → r.length ≤ 1048576) : Good Try.prog 177 [eMem m, eW w] (.tup [eW ⟨w.a, w.s + 0, w.n - 0, w.n - 0⟩, vb true]) [] := by
  have h := c177 m w hl1 hl2
  rw [slW_all hk] at h
  exact h
theorem c180k (m : List (List Int)) (w : Win) (xs : List Int) (hk : okW m w = true) (hl1 : m.length ≤ 1048576) (hl2 : ∀ r, r ∈ m → r.length ≤ 1048576) (hx : xs.length ≤ 1048576) : Good Try.prog 180 [eMem m, eW w, eB xs] (.tup [oM 0 (uMW (apM m w xs)).1, eW (uMW (apM m w xs)).2, vb (apM m w xs).isSome]) [rM (uMW (apM m w xs)).1] := by
  have h := c180 m w xs hl1 hl2 hx
  rw [show abO m w xs = apM m w xs from if_pos hk] at h
  exact h

set_option maxHeartbeats 4000000 in
theorem c141 (d : Dk) (x : Dl) (hd : okD d = true) : GoodR Try.prog 141 [.ptr (0, none) 0 0, eDl x] [⟨116, 3, [[.ref (1, none) 0 d.m.length, .ref (2, none) 0 d.ws.length, vi d.k]]⟩, rM d.m, rWS d.ws] (vb (doD d x).isSome) (rD (doD d x)) := by
  refine goodR_of (E := En 264 3) (fn := Try.f141) (by kernel_rfl) (by kernel_rfl) rfl rfl (by simp only [List.length_cons, List.length_nil]; decide) ⟨rfl, rD_len⟩ rfl rD_ok (fun C0 => ?_)
  simp only [argT, rsT, Nat.reduceAdd, List.length_cons, List.length_nil, eB, eM, eWS]
  have hgm := okD_g hd
  have hl1 := hgm.l4
  have hl2 := hgm.r4
  have hr := okD_r hd
  have hw : d.ws.length ≤ 1048576 := by omega
  have hsz := preD_sz (x := x) hd
  refine ev_seq fun K1 h1 => ?_
  refine ev_rf mB ?_
  iterate 2 refine dr_act wN mb ma mc mT mR ?_
  refine dr_nil (h1 _ ?_); clear h1
  refine ev_seq fun K1 h1 => ?_
  refine ev_rf mB ?_
  iterate 7 refine dr_act wN mb ma mc mT mR ?_
  refine dr_nil (h1 _ ?_); clear h1
  refine ev_seq fun K1 h1 => ?_
  refine ev_seq fun K2 h2 => ?_
  refine ev_reg mB ?_
  refine dr_act wN mb ma mc mT mR ?_
  refine dr_callF wN mr mb mx mr (c174 x) (Nat.le_of_ble_eq_true rfl) mv mT mN ?_
  iterate 2 refine dr_act wN mb ma mc mT mR ?_
  cases hc1 : (isOnlyD x)
  · iterate 4 refine dr_skip wG mT ?_
    iterate 8 refine dr_skip wU mT ?_
    refine dr_skip wG mT ?_
    refine dr_act wN mb ma mc mT mR ?_
    refine dr_nil ⟨fun _ => by kernel_rfl, h2 _ ?_⟩; clear h2
    refine ev_cond true mlq (fun hz => ?_) (fun hz => by cases hz)
    refine ev_seq fun K2 h2 => ?_
    refine ev_rf mB ?_
    refine dr_act wN mb ma mc mT mR ?_
    refine dr_nil (h2 _ ?_); clear h2
    refine ev_ret ?_
    rw [doD_z1 (by assumption)]
    exact retLR [] (res' := [.tmp 4]) mr (.tmp nT mL .nil) rfl ⟨by decide, by decide⟩ rfl trivial
  iterate 4 refine dr_act wG mb ma mc mT mR ?_
  cases hc2 : (x.t != 1)
  · have hc2 := eq_of_bneF hc2
    iterate 8 refine dr_skip wG mT ?_
    refine dr_act wG mb ma mc mT mR ?_
    refine dr_act wN mb ma mc mT mR ?_
    refine dr_nil ⟨fun _ => by kernel_rfl, h2 _ ?_⟩; clear h2
    refine ev_cond false mlq (fun hz => by cases hz) (fun hz => ?_)
    refine ev_skip (h1 _ ?_); clear h1
    refine ev_seq fun K1 h1 => ?_
    refine ev_seq fun K2 h2 => ?_
    refine ev_rf mB ?_
    iterate 2 refine dr_act wN mb ma mc mT mR ?_
    refine dr_nil (h2 _ ?_); clear h2
    refine ev_block ?_
    refine ev_seq fun K2 h2 => ?_
    refine ev_rf mB ?_
    iterate 2 refine dr_act wN mb ma mc mT mR ?_
    refine dr_nil (h2 _ ?_); clear h2
    rw [show (x.t == 1) = true from by simp only [beq_iff_eq, bne_iff_ne, beq_eq_false_iff_ne, bne_eq_false_iff_eq, ne_eq]; assumption]
    refine ev_cond true mlq (fun hz => ?_) (fun hz => by cases hz)
    refine ev_seq fun K2 h2 => ?_
    refine ev_reg mB ?_
    iterate 6 refine dr_act wN mb ma mc mT mR ?_
    refine dr_call wN mr mb mx (.cons (.agg (.cons (fM mr rfl) .nil)) (.cons (fN rfl) .nil)) (c128u d.m x.a mh mh) (Nat.le_of_ble_eq_true rfl) mv mT mN ?_
    iterate 7 refine dr_act wN mb ma mc mT mR ?_
    refine dr_nil ⟨fun _ => by kernel_rfl, h2 _ ?_⟩; clear h2
    refine ev_seq fun K2 h2 => ?_
    refine ev_weak (σ' := ⟨[(0, .ptr (0, none) 0 0), (4, vb false), (5, .ptr (35, none) 0 0), (6, .ptr (43, none) 0 0), (7, vb ((nwM d.m x.a).isSome))], [(0, ⟨116, 3, [[.ref (1, none) 0 d.m.length, .ref (2, none) 0 d.ws.length, vi d.k]]⟩), (35, ⟨31, 1, [[.ref (299, none) 0 (((uMW (nwM d.m x.a)).1).length)]]⟩), (43, ⟨32, 4, [[vi (((uMW (nwM d.m x.a)).2).a), vi (((uMW (nwM d.m x.a)).2).s), vi (((uMW (nwM d.m x.a)).2).n), vi (((uMW (nwM d.m x.a)).2).c)]]⟩), (1, ⟨29, 1, d.m.map cR⟩), (2, ⟨32, 4, d.ws.map cW⟩), (299, ⟨29, 1, ((uMW (nwM d.m x.a)).1).map cR⟩)], 363⟩) (weak_ren [] mK (chkR_cons mK (chkR_cons mK (chkR_cons mK (chkRm rfl (by decide) rfl (fun _ => rfl) (fun a => by first | rfl | simp [okC]) (chkRm rfl (by decide) rfl (fun _ => rfl) (fun a => by first | rfl | simp [okC]) (chkRm rfl (by decide) rfl (fun _ => rfl) (fun a => by first | rfl | simp [okC]) trivial)))))) mD mQ) ?_
    refine ev_rf mB ?_
    refine dr_act wN mb ma mc mT mR ?_
    refine dr_nil (h2 _ ?_); clear h2
    cases hc3 : ((nwM d.m x.a).isSome)
    · refine ev_cond false mlq (fun hz => by cases hz) (fun hz => ?_)
      refine ev_skip (h1 _ ?_); clear h1
      refine ev_seq fun K1 h1 => ?_
      refine ev_rf mB ?_
      iterate 5 refine dr_act wN mb ma mc mT mR ?_
      refine dr_nil (h1 _ ?_); clear h1
      refine ev_seq fun K1 h1 => ?_
      refine ev_rf mB ?_
      iterate 5 refine dr_act wN mb ma mc mT mR ?_
      rw [wrap_of (x := d.k + 1) (by omega) (by omega)]
      iterate 3 refine dr_act wN mb ma mc mT mR ?_
      refine dr_nil (h1 _ ?_); clear h1
      refine ev_seq fun K1 h1 => ?_
      refine ev_rf mB ?_
      iterate 2 refine dr_act wN mb ma mc mT mR ?_
      iterate 4 refine dr_skip wG mT ?_
      iterate 2 refine dr_act wN mb ma mc mT mR ?_
      refine dr_nil (h1 _ ?_); clear h1
      refine ev_ret ?_
      rw [doD_z2 (preD_1 (d := d) (x := x) (by assumption)) (by first | assumption | rfl)]
      exact retLR [] (res' := [.tmp 4]) mr (.tmp nT mL .nil) rfl ⟨by decide, by decide⟩ rfl trivial
    refine ev_cond true mlq (fun hz => ?_) (fun hz => by cases hz)
    refine ev_reg mB ?_
    iterate 7 refine dr_act wN mb ma mc mT mR ?_
    refine dr_app (g := cW) d.ws [(uMW (nwM d.m x.a)).2] wN mr mb ml mr rfl ml mr mA (fun _ => rfl) (by first | omega | (simp only [cutL, List.length_append, List.length_cons, List.length_nil, List.length_take, List.length_drop]; omega)) mT mR ?_
    iterate 3 refine dr_act wN mb ma mc mT mR ?_
    refine dr_nil ⟨fun _ => by kernel_rfl, h1 _ ?_⟩; clear h1
    refine ev_seq fun K1 h1 => ?_
    refine ev_rf mB ?_
    iterate 5 refine dr_act wN mb ma mc mT mR ?_
    refine dr_nil (h1 _ ?_); clear h1
    refine ev_seq fun K1 h1 => ?_
    refine ev_rf mB ?_
    iterate 5 refine dr_act wN mb ma mc mT mR ?_
    rw [wrap_of (x := d.k + 1) (by omega) (by omega)]
    iterate 3 refine dr_act wN mb ma mc mT mR ?_
    refine dr_nil (h1 _ ?_); clear h1
    refine ev_seq fun K1 h1 => ?_
    refine ev_rf mB ?_
    iterate 2 refine dr_act wN mb ma mc mT mR ?_
    iterate 3 refine dr_act wG mb ma mc mT mR ?_
    refine dr_call wG mr mb mx (.cons (.agg (.cons (fM mr rfl) (.cons (fWS mr rfl) (.cons (fn rfl) .nil)))) .nil) (c139 ⟨(uMW (nwM d.m x.a)).1, d.ws ++ [(uMW (nwM d.m x.a)).2], d.k + 1⟩ (by first | exact (sz_of hd (x := x) (preD_1 (by assumption))).1 | exact (sz_of hd (x := x) ((preD_h (by omega) (by assumption)).trans (hdl_2 (by assumption)))).1 | exact (sz_of hd (x := x) ((preD_h (by omega) (by assumption)).trans (hdl_3 (by assumption)))).1 | exact (sz_of hd (x := x) ((preD_h (by omega) (by assumption)).trans (hdl_8 (by assumption)))).1 | exact (sz_of hd (x := x) ((preD_h (by omega) (by assumption)).trans (hdl_5 (by assumption) (by assumption)))).1 | exact (sz_of hd (x := x) (pd4 (by assumption) (by assumption) (by assumption))).1 | exact (sz_of hd (x := x) (pd6 (by assumption) (by assumption) (by assumption))).1 | exact (sz_of hd (x := x) (pd7 (by assumption) (by assumption))).1) (by first | exact (sz_of hd (x := x) (preD_1 (by assumption))).2.1 | exact (sz_of hd (x := x) ((preD_h (by omega) (by assumption)).trans (hdl_2 (by assumption)))).2.1 | exact (sz_of hd (x := x) ((preD_h (by omega) (by assumption)).trans (hdl_3 (by assumption)))).2.1 | exact (sz_of hd (x := x) ((preD_h (by omega) (by assumption)).trans (hdl_8 (by assumption)))).2.1 | exact (sz_of hd (x := x) ((preD_h (by omega) (by assumption)).trans (hdl_5 (by assumption) (by assumption)))).2.1 | exact (sz_of hd (x := x) (pd4 (by assumption) (by assumption) (by assumption))).2.1 | exact (sz_of hd (x := x) (pd6 (by assumption) (by assumption) (by assumption))).2.1 | exact (sz_of hd (x := x) (pd7 (by assumption) (by assumption))).2.1) (by first | exact (sz_of hd (x := x) (preD_1 (by assumption))).2.2 | exact (sz_of hd (x := x) ((preD_h (by omega) (by assumption)).trans (hdl_2 (by assumption)))).2.2 | exact (sz_of hd (x := x) ((preD_h (by omega) (by assumption)).trans (hdl_3 (by assumption)))).2.2 | exact (sz_of hd (x := x) ((preD_h (by omega) (by assumption)).trans (hdl_8 (by assumption)))).2.2 | exact (sz_of hd (x := x) ((preD_h (by omega) (by assumption)).trans (hdl_5 (by assumption) (by assumption)))).2.2 | exact (sz_of hd (x := x) (pd4 (by assumption) (by assumption) (by assumption))).2.2 | exact (sz_of hd (x := x) (pd6 (by assumption) (by assumption) (by assumption))).2.2 | exact (sz_of hd (x := x) (pd7 (by assumption) (by assumption))).2.2)) (Nat.le_of_ble_eq_true rfl) mv mT mN ?_
    cases hc4 : (okD ⟨(uMW (nwM d.m x.a)).1, d.ws ++ [(uMW (nwM d.m x.a)).2], d.k + 1⟩)
    · iterate 2 refine dr_act wN mb ma mc mT mR ?_
      refine dr_nil (h1 _ ?_); clear h1
      refine ev_ret ?_
      rw [doD_z3 (preD_1 (d := d) (x := x) (by assumption)) (by assumption)]
      exact retLR [] (res' := [.tmp 4]) mr (.tmp nT mL .nil) rfl ⟨by decide, by decide⟩ rfl trivial
    iterate 2 refine dr_act wN mb ma mc mT mR ?_
    refine dr_nil (h1 _ ?_); clear h1
    refine ev_ret ?_
    rw [doD_some (by assumption) (by omega) (preD_1 (d := d) (x := x) (by assumption)) (by first | assumption | rfl) (by assumption)]
    exact retLR [299, 427] (res' := [.tmp 4]) mr (.tmp nT mL .nil) rfl ⟨by decide, by decide⟩ rfl ⟨(rtB rfl (by first | rfl | (simp only [List.length_set]; rfl))), ⟨_, mr, rfl, rfl, rnMap (fun _ => rfl) _⟩, ⟨_, mr, rfl, rfl, rnMap (fun _ => rfl) _⟩, trivial⟩
  have hc2 := bne_iff_ne.1 hc2
  iterate 6 refine dr_act wG mb ma mc mT mR ?_
  refine dr_call wG mr mb mx (.cons (.agg (.cons (fM mr rfl) (.cons (fWS mr rfl) (.cons (fn rfl) .nil)))) (.cons (.cell (fEls mr rfl rfl)) .nil)) (c175a d x.a mh) (Nat.le_of_ble_eq_true rfl) mv mT mN ?_
  iterate 2 refine dr_act wG mb ma mc mT mR ?_
  refine dr_act wN mb ma mc mT mR ?_
  refine dr_nil ⟨fun _ => by kernel_rfl, h2 _ ?_⟩; clear h2
  cases hc5 : (decide (0 ≤ x.a ∧ x.a ≤ (d.ws.length : Int) - 1))
  · have hc5 := of_decide_eq_false hc5
    refine ev_cond true mlq (fun hz => ?_) (fun hz => by cases hz)
    refine ev_seq fun K2 h2 => ?_
    refine ev_rf mB ?_
    refine dr_act wN mb ma mc mT mR ?_
    refine dr_nil (h2 _ ?_); clear h2
    refine ev_ret ?_
    rw [doD_z4 (by assumption) (by assumption)]
    exact retLR [] (res' := [.tmp 4]) mr (.tmp nT mL .nil) rfl ⟨by decide, by decide⟩ rfl trivial
  have hc5 := of_decide_eq_true hc5
  have hWv := okD_w hd hc5
  have hG := okW_GW hWv
  have g3 := hG.s0
  have g4 := hG.n0
  have g5 := hG.n1
  have g6 := hG.c1
  have g7 := hG.row
  have g8 := hG.c64
  refine ev_cond false mlq (fun hz => by cases hz) (fun hz => ?_)
  refine ev_skip (h1 _ ?_); clear h1
  refine ev_seq fun K1 h1 => ?_
  refine ev_seq fun K2 h2 => ?_
  refine ev_rf mB ?_
  iterate 2 refine dr_act wN mb ma mc mT mR ?_
  refine dr_nil (h2 _ ?_); clear h2
  refine ev_block ?_
  refine ev_seq fun K2 h2 => ?_
  refine ev_rf mB ?_
  iterate 2 refine dr_act wN mb ma mc mT mR ?_
  refine dr_nil (h2 _ ?_); clear h2
  rw [show (x.t == 1) = false from by simp only [beq_iff_eq, bne_iff_ne, beq_eq_false_iff_ne, bne_eq_false_iff_eq, ne_eq]; assumption]
  refine ev_cond false mlq (fun hz => by cases hz) (fun hz => ?_)
  refine ev_seq fun K2 h2 => ?_
  refine ev_rf mB ?_
  iterate 2 refine dr_act wN mb ma mc mT mR ?_
  refine dr_nil (h2 _ ?_); clear h2
  cases hc6 : (x.t == 2)
  rotate_left
  · have hc6 := eq_of_beq hc6
    refine ev_cond true mlq (fun hz => ?_) (fun hz => by cases hz)
    refine ev_seq fun K2 h2 => ?_
    refine ev_rf mB ?_
    iterate 5 refine dr_act wN mb ma mc mT mR ?_
    refine dr_nil (h2 _ ?_); clear h2
    refine ev_seq fun K2 h2 => ?_
    refine ev_reg mB ?_
    iterate 7 refine dr_act wN mb ma mc mT mR ?_
    refine dr_ixp wN mr mb ml ml mr mS (by omega) (ik := x.a.toNat) (by omega) mT ?_
    refine dr_ldp (g := cW) wz wN mr mb ml mr (by omega) mZ mV2 mT ?_
    iterate 4 refine dr_act wN mb ma mc mT mR ?_
    refine dr_call wN mr mb mx (.cons (.agg (.cons (fM mr rfl) .nil)) (.cons (fN rfl) (.cons (fN rfl) (.cons (fN rfl) .nil)))) (c176 d.m (d.ws.getD x.a.toNat wz) x.b x.c mh mh) (Nat.le_of_ble_eq_true rfl) mv mT mN ?_
    iterate 5 refine dr_act wN mb ma mc mT mR ?_
    refine dr_nil ⟨fun _ => by kernel_rfl, h2 _ ?_⟩; clear h2
    refine ev_seq fun K2 h2 => ?_
    refine ev_weak (σ' := ⟨[(0, .ptr (0, none) 0 0), (4, vb false), (5, .ptr (35, none) 0 0), (6, .ptr (43, none) 0 0), (7, vb ((slW d.m (d.ws.getD x.a.toNat wz) x.b x.c ((d.ws.getD x.a.toNat wz).c)).isSome))], [(0, ⟨116, 3, [[.ref (1, none) 0 d.m.length, .ref (2, none) 0 d.ws.length, vi d.k]]⟩), (35, ⟨31, 1, [[.ref (1, none) 0 d.m.length]]⟩), (43, ⟨32, 4, [[vi (((slW d.m (d.ws.getD x.a.toNat wz) x.b x.c ((d.ws.getD x.a.toNat wz).c)).getD wz).a), vi (((slW d.m (d.ws.getD x.a.toNat wz) x.b x.c ((d.ws.getD x.a.toNat wz).c)).getD wz).s), vi (((slW d.m (d.ws.getD x.a.toNat wz) x.b x.c ((d.ws.getD x.a.toNat wz).c)).getD wz).n), vi (((slW d.m (d.ws.getD x.a.toNat wz) x.b x.c ((d.ws.getD x.a.toNat wz).c)).getD wz).c)]]⟩), (1, ⟨29, 1, d.m.map cR⟩), (2, ⟨32, 4, d.ws.map cW⟩)], 459⟩) (weak_ren [] mK (chkR_cons mK (chkR_cons mK (chkR_cons mK (chkRm rfl (by decide) rfl (fun _ => rfl) (fun a => by first | rfl | simp [okC]) (chkRm rfl (by decide) rfl (fun _ => rfl) (fun a => by first | rfl | simp [okC]) trivial))))) mD mQ) ?_
    refine ev_rf mB ?_
    refine dr_act wN mb ma mc mT mR ?_
    refine dr_nil (h2 _ ?_); clear h2
    cases hc26 : ((slW d.m (d.ws.getD x.a.toNat wz) x.b x.c ((d.ws.getD x.a.toNat wz).c)).isSome)
    · refine ev_cond false mlq (fun hz => by cases hz) (fun hz => ?_)
      refine ev_skip (h1 _ ?_); clear h1
      refine ev_seq fun K1 h1 => ?_
      refine ev_rf mB ?_
      iterate 5 refine dr_act wN mb ma mc mT mR ?_
      refine dr_nil (h1 _ ?_); clear h1
      refine ev_seq fun K1 h1 => ?_
      refine ev_rf mB ?_
      iterate 5 refine dr_act wN mb ma mc mT mR ?_
      rw [wrap_of (x := d.k + 1) (by omega) (by omega)]
      iterate 3 refine dr_act wN mb ma mc mT mR ?_
      refine dr_nil (h1 _ ?_); clear h1
      refine ev_seq fun K1 h1 => ?_
      refine ev_rf mB ?_
      iterate 2 refine dr_act wN mb ma mc mT mR ?_
      iterate 4 refine dr_skip wG mT ?_
      iterate 2 refine dr_act wN mb ma mc mT mR ?_
      refine dr_nil (h1 _ ?_); clear h1
      refine ev_ret ?_
      rw [doD_z2 ((preD_h (d := d) (x := x) (by omega) (by assumption)).trans (hdl_2 (by assumption))) (by first | assumption | rfl)]
      exact retLR [] (res' := [.tmp 4]) mr (.tmp nT mL .nil) rfl ⟨by decide, by decide⟩ rfl trivial
    refine ev_cond true mlq (fun hz => ?_) (fun hz => by cases hz)
    refine ev_reg mB ?_
    iterate 7 refine dr_act wN mb ma mc mT mR ?_
    refine dr_app (g := cW) d.ws [(slW d.m (d.ws.getD x.a.toNat wz) x.b x.c ((d.ws.getD x.a.toNat wz).c)).getD wz] wN mr mb ml mr rfl ml mr mA (fun _ => rfl) (by first | omega | (simp only [cutL, List.length_append, List.length_cons, List.length_nil, List.length_take, List.length_drop]; omega)) mT mR ?_
    iterate 3 refine dr_act wN mb ma mc mT mR ?_
    refine dr_nil ⟨fun _ => by kernel_rfl, h1 _ ?_⟩; clear h1
    refine ev_seq fun K1 h1 => ?_
    refine ev_rf mB ?_
    iterate 5 refine dr_act wN mb ma mc mT mR ?_
    refine dr_nil (h1 _ ?_); clear h1
    refine ev_seq fun K1 h1 => ?_
    refine ev_rf mB ?_
    iterate 5 refine dr_act wN mb ma mc mT mR ?_
    rw [wrap_of (x := d.k + 1) (by omega) (by omega)]
    iterate 3 refine dr_act wN mb ma mc mT mR ?_
    refine dr_nil (h1 _ ?_); clear h1
    refine ev_seq fun K1 h1 => ?_
    refine ev_rf mB ?_
    iterate 2 refine dr_act wN mb ma mc mT mR ?_
    iterate 3 refine dr_act wG mb ma mc mT mR ?_
    refine dr_call wG mr mb mx (.cons (.agg (.cons (fM mr rfl) (.cons (fWS mr rfl) (.cons (fn rfl) .nil)))) .nil) (c139 ⟨d.m, d.ws ++ [(slW d.m (d.ws.getD x.a.toNat wz) x.b x.c ((d.ws.getD x.a.toNat wz).c)).getD wz], d.k + 1⟩ (by first | exact (sz_of hd (x := x) (preD_1 (by assumption))).1 | exact (sz_of hd (x := x) ((preD_h (by omega) (by assumption)).trans (hdl_2 (by assumption)))).1 | exact (sz_of hd (x := x) ((preD_h (by omega) (by assumption)).trans (hdl_3 (by assumption)))).1 | exact (sz_of hd (x := x) ((preD_h (by omega) (by assumption)).trans (hdl_8 (by assumption)))).1 | exact (sz_of hd (x := x) ((preD_h (by omega) (by assumption)).trans (hdl_5 (by assumption) (by assumption)))).1 | exact (sz_of hd (x := x) (pd4 (by assumption) (by assumption) (by assumption))).1 | exact (sz_of hd (x := x) (pd6 (by assumption) (by assumption) (by assumption))).1 | exact (sz_of hd (x := x) (pd7 (by assumption) (by assumption))).1) (by first | exact (sz_of hd (x := x) (preD_1 (by assumption))).2.1 | exact (sz_of hd (x := x) ((preD_h (by omega) (by assumption)).trans (hdl_2 (by assumption)))).2.1 | exact (sz_of hd (x := x) ((preD_h (by omega) (by assumption)).trans (hdl_3 (by assumption)))).2.1 | exact (sz_of hd (x := x) ((preD_h (by omega) (by assumption)).trans (hdl_8 (by assumption)))).2.1 | exact (sz_of hd (x := x) ((preD_h (by omega) (by assumption)).trans (hdl_5 (by assumption) (by assumption)))).2.1 | exact (sz_of hd (x := x) (pd4 (by assumption) (by assumption) (by assumption))).2.1 | exact (sz_of hd (x := x) (pd6 (by assumption) (by assumption) (by assumption))).2.1 | exact (sz_of hd (x := x) (pd7 (by assumption) (by assumption))).2.1) (by first | exact (sz_of hd (x := x) (preD_1 (by assumption))).2.2 | exact (sz_of hd (x := x) ((preD_h (by omega) (by assumption)).trans (hdl_2 (by assumption)))).2.2 | exact (sz_of hd (x := x) ((preD_h (by omega) (by assumption)).trans (hdl_3 (by assumption)))).2.2 | exact (sz_of hd (x := x) ((preD_h (by omega) (by assumption)).trans (hdl_8 (by assumption)))).2.2 | exact (sz_of hd (x := x) ((preD_h (by omega) (by assumption)).trans (hdl_5 (by assumption) (by assumption)))).2.2 | exact (sz_of hd (x := x) (pd4 (by assumption) (by assumption) (by assumption))).2.2 | exact (sz_of hd (x := x) (pd6 (by assumption) (by assumption) (by assumption))).2.2 | exact (sz_of hd (x := x) (pd7 (by assumption) (by assumption))).2.2)) (Nat.le_of_ble_eq_true rfl) mv mT mN ?_
    cases hc27 : (okD ⟨d.m, d.ws ++ [(slW d.m (d.ws.getD x.a.toNat wz) x.b x.c ((d.ws.getD x.a.toNat wz).c)).getD wz], d.k + 1⟩)
    · iterate 2 refine dr_act wN mb ma mc mT mR ?_
      refine dr_nil (h1 _ ?_); clear h1
      refine ev_ret ?_
      rw [doD_z3 ((preD_h (d := d) (x := x) (by omega) (by assumption)).trans (hdl_2 (by assumption))) (by assumption)]
      exact retLR [] (res' := [.tmp 4]) mr (.tmp nT mL .nil) rfl ⟨by decide, by decide⟩ rfl trivial
    iterate 2 refine dr_act wN mb ma mc mT mR ?_
    refine dr_nil (h1 _ ?_); clear h1
    refine ev_weak (σ' := ⟨[(4, vb true)], [(0, ⟨116, 3, [[.ref (723, none) 0 d.m.length, .ref (523, none) 0 ((d.ws ++ [(slW d.m (d.ws.getD x.a.toNat wz) x.b x.c ((d.ws.getD x.a.toNat wz).c)).getD wz]).length), vi (d.k + 1)]]⟩), (523, ⟨32, 4, (d.ws ++ [(slW d.m (d.ws.getD x.a.toNat wz) x.b x.c ((d.ws.getD x.a.toNat wz).c)).getD wz]).map cW⟩), (723, ⟨29, 1, d.m.map cR⟩)], 747⟩) (weak_ren [(723, 1)] mK (chkR_cons mK (chkRm rfl (by decide) rfl (fun _ => rfl) (fun a => by first | rfl | simp [okC]) (chkRm rfl (by decide) rfl (fun _ => rfl) (fun a => by first | rfl | simp [okC]) trivial))) mD mQ) ?_
    refine ev_ret ?_
    rw [doD_some (by assumption) (by omega) ((preD_h (d := d) (x := x) (by omega) (by assumption)).trans (hdl_2 (by assumption))) (by first | assumption | rfl) (by assumption)]
    exact retLR [723, 523] (res' := [.tmp 4]) mr (.tmp nT mL .nil) rfl ⟨by decide, by decide⟩ rfl ⟨(rtB rfl (by first | rfl | (simp only [List.length_set]; rfl))), ⟨_, mr, rfl, rfl, rnMap (fun _ => rfl) _⟩, ⟨_, mr, rfl, rfl, rnMap (fun _ => rfl) _⟩, trivial⟩
  have hc6 := ne_of_beq_false hc6
  refine ev_cond false mlq (fun hz => by cases hz) (fun hz => ?_)
  refine ev_seq fun K2 h2 => ?_
  refine ev_rf mB ?_
  iterate 2 refine dr_act wN mb ma mc mT mR ?_
  refine dr_nil (h2 _ ?_); clear h2
  cases hc7 : (x.t == 3)
  rotate_left
  · have hc7 := eq_of_beq hc7
    refine ev_cond true mlq (fun hz => ?_) (fun hz => by cases hz)
    refine ev_seq fun K2 h2 => ?_
    refine ev_rf mB ?_
    iterate 5 refine dr_act wN mb ma mc mT mR ?_
    refine dr_nil (h2 _ ?_); clear h2
    refine ev_reg mB ?_
    iterate 13 refine dr_act wN mb ma mc mT mR ?_
    refine dr_ixp wN mr mb ml ml mr mS (by omega) (ik := x.a.toNat) (by omega) mT ?_
    refine dr_ldp (g := cW) wz wN mr mb ml mr (by omega) mZ mV2 mT ?_
    refine dr_call wN mr mb mx (.cons (.agg (.cons (fM mr rfl) .nil)) (.cons (fN rfl) .nil)) (c177k d.m (d.ws.getD x.a.toNat wz) hWv mh mh) (Nat.le_of_ble_eq_true rfl) mv mT mN ?_
    iterate 3 refine dr_act wN mb ma mc mT mR ?_
    refine dr_ixp wN mr mb ml ml mr mS (by omega) (ik := x.a.toNat) (by omega) mT ?_
    refine dr_stp (r' := ⟨32, 4, (d.ws.set x.a.toNat ⟨(d.ws.getD x.a.toNat wz).a, ((d.ws.getD x.a.toNat wz).s) + 0, ((d.ws.getD x.a.toNat wz).n) - 0, ((d.ws.getD x.a.toNat wz).n) - 0⟩).map cW⟩) wN mr mb ml mr mr ml ⟨rfl, mlz⟩ mA ⟨(by rw [List.length_map]; omega), mA⟩ (set_put wz (by omega) rfl) rfl mT mR ?_
    refine dr_act wN mb ma mc mT mR ?_
    refine dr_nil ⟨fun _ => by kernel_rfl, h1 _ ?_⟩; clear h1
    refine ev_seq fun K1 h1 => ?_
    refine ev_weak (σ' := ⟨[(0, .ptr (0, none) 0 0), (4, vb false), (5, .ptr (35, none) 0 0), (7, vb true)], [(0, ⟨116, 3, [[.ref (1, none) 0 d.m.length, .ref (2, none) 0 d.ws.length, vi d.k]]⟩), (35, ⟨31, 1, [[.ref (1, none) 0 d.m.length]]⟩), (1, ⟨29, 1, d.m.map cR⟩), (2, ⟨32, 4, (d.ws.set x.a.toNat ⟨(d.ws.getD x.a.toNat wz).a, ((d.ws.getD x.a.toNat wz).s) + 0, ((d.ws.getD x.a.toNat wz).n) - 0, ((d.ws.getD x.a.toNat wz).n) - 0⟩).map cW⟩)], 499⟩) (weak_ren [] mK (chkR_cons mK (chkR_cons mK (chkRm rfl (by decide) rfl (fun _ => rfl) (fun a => by first | rfl | simp [okC]) (chkRm rfl (by decide) rfl (fun _ => rfl) (fun a => by first | rfl | simp [okC]) trivial)))) mD mQ) ?_
    refine ev_rf mB ?_
    iterate 5 refine dr_act wN mb ma mc mT mR ?_
    refine dr_nil (h1 _ ?_); clear h1
    refine ev_seq fun K1 h1 => ?_
    refine ev_rf mB ?_
    iterate 5 refine dr_act wN mb ma mc mT mR ?_
    rw [wrap_of (x := d.k + 1) (by omega) (by omega)]
    iterate 3 refine dr_act wN mb ma mc mT mR ?_
    refine dr_nil (h1 _ ?_); clear h1
    refine ev_seq fun K1 h1 => ?_
    refine ev_rf mB ?_
    iterate 2 refine dr_act wN mb ma mc mT mR ?_
    iterate 3 refine dr_act wG mb ma mc mT mR ?_
    refine dr_call wG mr mb mx (.cons (.agg (.cons (fM mr rfl) (.cons (fWS mr (by simp only [List.length_set, List.length_replicate, wrM_len])) (.cons (fn rfl) .nil)))) .nil) (c139 ⟨d.m, d.ws.set x.a.toNat ⟨(d.ws.getD x.a.toNat wz).a, ((d.ws.getD x.a.toNat wz).s) + 0, ((d.ws.getD x.a.toNat wz).n) - 0, ((d.ws.getD x.a.toNat wz).n) - 0⟩, d.k + 1⟩ (by first | exact (sz_of hd (x := x) (preD_1 (by assumption))).1 | exact (sz_of hd (x := x) ((preD_h (by omega) (by assumption)).trans (hdl_2 (by assumption)))).1 | exact (sz_of hd (x := x) ((preD_h (by omega) (by assumption)).trans (hdl_3 (by assumption)))).1 | exact (sz_of hd (x := x) ((preD_h (by omega) (by assumption)).trans (hdl_8 (by assumption)))).1 | exact (sz_of hd (x := x) ((preD_h (by omega) (by assumption)).trans (hdl_5 (by assumption) (by assumption)))).1 | exact (sz_of hd (x := x) (pd4 (by assumption) (by assumption) (by assumption))).1 | exact (sz_of hd (x := x) (pd6 (by assumption) (by assumption) (by assumption))).1 | exact (sz_of hd (x := x) (pd7 (by assumption) (by assumption))).1) (by first | exact (sz_of hd (x := x) (preD_1 (by assumption))).2.1 | exact (sz_of hd (x := x) ((preD_h (by omega) (by assumption)).trans (hdl_2 (by assumption)))).2.1 | exact (sz_of hd (x := x) ((preD_h (by omega) (by assumption)).trans (hdl_3 (by assumption)))).2.1 | exact (sz_of hd (x := x) ((preD_h (by omega) (by assumption)).trans (hdl_8 (by assumption)))).2.1 | exact (sz_of hd (x := x) ((preD_h (by omega) (by assumption)).trans (hdl_5 (by assumption) (by assumption)))).2.1 | exact (sz_of hd (x := x) (pd4 (by assumption) (by assumption) (by assumption))).2.1 | exact (sz_of hd (x := x) (pd6 (by assumption) (by assumption) (by assumption))).2.1 | exact (sz_of hd (x := x) (pd7 (by assumption) (by assumption))).2.1) (by first | exact (sz_of hd (x := x) (preD_1 (by assumption))).2.2 | exact (sz_of hd (x := x) ((preD_h (by omega) (by assumption)).trans (hdl_2 (by assumption)))).2.2 | exact (sz_of hd (x := x) ((preD_h (by omega) (by assumption)).trans (hdl_3 (by assumption)))).2.2 | exact (sz_of hd (x := x) ((preD_h (by omega) (by assumption)).trans (hdl_8 (by assumption)))).2.2 | exact (sz_of hd (x := x) ((preD_h (by omega) (by assumption)).trans (hdl_5 (by assumption) (by assumption)))).2.2 | exact (sz_of hd (x := x) (pd4 (by assumption) (by assumption) (by assumption))).2.2 | exact (sz_of hd (x := x) (pd6 (by assumption) (by assumption) (by assumption))).2.2 | exact (sz_of hd (x := x) (pd7 (by assumption) (by assumption))).2.2)) (Nat.le_of_ble_eq_true rfl) mv mT mN ?_
    cases hc25 : (okD ⟨d.m, d.ws.set x.a.toNat ⟨(d.ws.getD x.a.toNat wz).a, ((d.ws.getD x.a.toNat wz).s) + 0, ((d.ws.getD x.a.toNat wz).n) - 0, ((d.ws.getD x.a.toNat wz).n) - 0⟩, d.k + 1⟩)
    · iterate 2 refine dr_act wN mb ma mc mT mR ?_
      refine dr_nil (h1 _ ?_); clear h1
      refine ev_ret ?_
      rw [doD_z3 ((preD_h (d := d) (x := x) (by omega) (by assumption)).trans (hdl_3 (by assumption))) (by assumption)]
      exact retLR [] (res' := [.tmp 4]) mr (.tmp nT mL .nil) rfl ⟨by decide, by decide⟩ rfl trivial
    iterate 2 refine dr_act wN mb ma mc mT mR ?_
    refine dr_nil (h1 _ ?_); clear h1
    refine ev_weak (σ' := ⟨[(4, vb true)], [(0, ⟨116, 3, [[.ref (667, none) 0 d.m.length, .ref (675, none) 0 d.ws.length, vi (d.k + 1)]]⟩), (667, ⟨29, 1, d.m.map cR⟩), (675, ⟨32, 4, (d.ws.set x.a.toNat ⟨(d.ws.getD x.a.toNat wz).a, ((d.ws.getD x.a.toNat wz).s) + 0, ((d.ws.getD x.a.toNat wz).n) - 0, ((d.ws.getD x.a.toNat wz).n) - 0⟩).map cW⟩)], 691⟩) (weak_ren [(667, 1), (675, 2)] mK (chkR_cons mK (chkRm rfl (by decide) rfl (fun _ => rfl) (fun a => by first | rfl | simp [okC]) (chkRm rfl (by decide) rfl (fun _ => rfl) (fun a => by first | rfl | simp [okC]) trivial))) mD mQ) ?_
    refine ev_ret ?_
    rw [doD_some (by assumption) (by omega) ((preD_h (d := d) (x := x) (by omega) (by assumption)).trans (hdl_3 (by assumption))) (by first | assumption | rfl) (by assumption)]
    exact retLR [667, 675] (res' := [.tmp 4]) mr (.tmp nT mL .nil) rfl ⟨by decide, by decide⟩ rfl ⟨(rtB rfl (by first | rfl | (simp only [List.length_set]; rfl))), ⟨_, mr, rfl, rfl, rnMap (fun _ => rfl) _⟩, ⟨_, mr, rfl, rfl, rnMap (fun _ => rfl) _⟩, trivial⟩
  have hc7 := ne_of_beq_false hc7
  refine ev_cond false mlq (fun hz => by cases hz) (fun hz => ?_)
  refine ev_seq fun K2 h2 => ?_
  refine ev_rf mB ?_
  iterate 2 refine dr_act wN mb ma mc mT mR ?_
  refine dr_nil (h2 _ ?_); clear h2
  cases hc8 : (x.t == 4)
  rotate_left
  · have hc8 := eq_of_beq hc8
    refine ev_cond true mlq (fun hz => ?_) (fun hz => by cases hz)
    refine ev_seq fun K2 h2 => ?_
    refine ev_rf mB ?_
    iterate 2 refine dr_act wN mb ma mc mT mR ?_
    refine dr_callF wN mr mb mx mr (c178 x.c) (Nat.le_of_ble_eq_true rfl) mv mT mN ?_
    refine dr_nil (h2 _ ?_); clear h2
    cases hc22 : (decide (0 ≤ x.c ∧ x.c ≤ 255))
    · have hc22 := of_decide_eq_false hc22
      refine ev_cond false mlq (fun hz => by cases hz) (fun hz => ?_)
      refine ev_skip (h1 _ ?_); clear h1
      refine ev_seq fun K1 h1 => ?_
      refine ev_rf mB ?_
      iterate 5 refine dr_act wN mb ma mc mT mR ?_
      refine dr_nil (h1 _ ?_); clear h1
      refine ev_seq fun K1 h1 => ?_
      refine ev_weak (σ' := ⟨[(0, .ptr (0, none) 0 0), (4, vb false), (7, vb false)], [(0, ⟨116, 3, [[.val (.slice none 0 0), .ref (2, none) 0 d.ws.length, vi d.k]]⟩), (1, ⟨29, 1, d.m.map cR⟩), (2, ⟨32, 4, d.ws.map cW⟩)], 363⟩) (weak_ren [] mK (chkR_cons mK (chkRm rfl (by decide) rfl (fun _ => rfl) (fun a => by first | rfl | simp [okC]) (chkRm rfl (by decide) rfl (fun _ => rfl) (fun a => by first | rfl | simp [okC]) trivial))) mD mQ) ?_
      refine ev_rf mB ?_
      iterate 5 refine dr_act wN mb ma mc mT mR ?_
      rw [wrap_of (x := d.k + 1) (by omega) (by omega)]
      iterate 3 refine dr_act wN mb ma mc mT mR ?_
      refine dr_nil (h1 _ ?_); clear h1
      refine ev_seq fun K1 h1 => ?_
      refine ev_rf mB ?_
      iterate 2 refine dr_act wN mb ma mc mT mR ?_
      iterate 4 refine dr_skip wG mT ?_
      iterate 2 refine dr_act wN mb ma mc mT mR ?_
      refine dr_nil (h1 _ ?_); clear h1
      refine ev_ret ?_
      rw [doD_z2 (pd4n (d := d) (x := x) (by assumption) (by assumption) (by assumption)) (by first | assumption | rfl)]
      exact retLR [] (res' := [.tmp 4]) mr (.tmp nT mL .nil) rfl ⟨by decide, by decide⟩ rfl trivial
    have hc22 := of_decide_eq_true hc22
    refine ev_cond true mlq (fun hz => ?_) (fun hz => by cases hz)
    refine ev_reg mB ?_
    iterate 10 refine dr_act wN mb ma mc mT mR ?_
    refine dr_ixp wN mr mb ml ml mr mS (by omega) (ik := x.a.toNat) (by omega) mT ?_
    refine dr_ldp (g := cW) wz wN mr mb ml mr (by omega) mZ mV2 mT ?_
    iterate 5 refine dr_act wN mb ma mc mT mR ?_
    refine dr_call wN mr mb mx (.cons (.agg (.cons (fM mr rfl) .nil)) (.cons (fN rfl) (.cons (fN rfl) (.cons (fN rfl) .nil)))) (c179 d.m (d.ws.getD x.a.toNat wz) x.b (IntKind.u8.wrap x.c) mh mh) (Nat.le_of_ble_eq_true rfl) mv mT mN ?_
    iterate 5 refine dr_act wN mb ma mc mT mR ?_
    refine dr_nil ⟨fun _ => by kernel_rfl, h1 _ ?_⟩; clear h1
    refine ev_seq fun K1 h1 => ?_
    refine ev_weak (σ' := ⟨[(0, .ptr (0, none) 0 0), (4, vb false), (5, .ptr (35, none) 0 0), (7, vb ((wrAt d.m (d.ws.getD x.a.toNat wz) x.b (IntKind.u8.wrap x.c)).isSome))], [(0, ⟨116, 3, [[.ref (1, none) 0 d.m.length, .ref (2, none) 0 d.ws.length, vi d.k]]⟩), (35, ⟨31, 1, [[.ref (459, none) 0 ((uM (wrAt d.m (d.ws.getD x.a.toNat wz) x.b (IntKind.u8.wrap x.c))).length)]]⟩), (1, ⟨29, 1, d.m.map cR⟩), (2, ⟨32, 4, d.ws.map cW⟩), (459, ⟨29, 1, (uM (wrAt d.m (d.ws.getD x.a.toNat wz) x.b (IntKind.u8.wrap x.c))).map cR⟩)], 507⟩) (weak_ren [] mK (chkR_cons mK (chkR_cons mK (chkRm rfl (by decide) rfl (fun _ => rfl) (fun a => by first | rfl | simp [okC]) (chkRm rfl (by decide) rfl (fun _ => rfl) (fun a => by first | rfl | simp [okC]) (chkRm rfl (by decide) rfl (fun _ => rfl) (fun a => by first | rfl | simp [okC]) trivial))))) mD mQ) ?_
    refine ev_rf mB ?_
    iterate 5 refine dr_act wN mb ma mc mT mR ?_
    refine dr_nil (h1 _ ?_); clear h1
    refine ev_seq fun K1 h1 => ?_
    refine ev_rf mB ?_
    iterate 5 refine dr_act wN mb ma mc mT mR ?_
    rw [wrap_of (x := d.k + 1) (by omega) (by omega)]
    iterate 3 refine dr_act wN mb ma mc mT mR ?_
    refine dr_nil (h1 _ ?_); clear h1
    refine ev_seq fun K1 h1 => ?_
    refine ev_rf mB ?_
    iterate 2 refine dr_act wN mb ma mc mT mR ?_
    cases hc23 : ((wrAt d.m (d.ws.getD x.a.toNat wz) x.b (IntKind.u8.wrap x.c)).isSome)
    · iterate 4 refine dr_skip wG mT ?_
      iterate 2 refine dr_act wN mb ma mc mT mR ?_
      refine dr_nil (h1 _ ?_); clear h1
      refine ev_ret ?_
      rw [doD_z2 (pd4 (d := d) (x := x) (by assumption) (by assumption) (by assumption)) (by first | assumption | rfl)]
      exact retLR [] (res' := [.tmp 4]) mr (.tmp nT mL .nil) rfl ⟨by decide, by decide⟩ rfl trivial
    iterate 3 refine dr_act wG mb ma mc mT mR ?_
    refine dr_call wG mr mb mx (.cons (.agg (.cons (fM mr rfl) (.cons (fWS mr rfl) (.cons (fn rfl) .nil)))) .nil) (c139 ⟨uM (wrAt d.m (d.ws.getD x.a.toNat wz) x.b (IntKind.u8.wrap x.c)), d.ws, d.k + 1⟩ (by first | exact (sz_of hd (x := x) (preD_1 (by assumption))).1 | exact (sz_of hd (x := x) ((preD_h (by omega) (by assumption)).trans (hdl_2 (by assumption)))).1 | exact (sz_of hd (x := x) ((preD_h (by omega) (by assumption)).trans (hdl_3 (by assumption)))).1 | exact (sz_of hd (x := x) ((preD_h (by omega) (by assumption)).trans (hdl_8 (by assumption)))).1 | exact (sz_of hd (x := x) ((preD_h (by omega) (by assumption)).trans (hdl_5 (by assumption) (by assumption)))).1 | exact (sz_of hd (x := x) (pd4 (by assumption) (by assumption) (by assumption))).1 | exact (sz_of hd (x := x) (pd6 (by assumption) (by assumption) (by assumption))).1 | exact (sz_of hd (x := x) (pd7 (by assumption) (by assumption))).1) (by first | exact (sz_of hd (x := x) (preD_1 (by assumption))).2.1 | exact (sz_of hd (x := x) ((preD_h (by omega) (by assumption)).trans (hdl_2 (by assumption)))).2.1 | exact (sz_of hd (x := x) ((preD_h (by omega) (by assumption)).trans (hdl_3 (by assumption)))).2.1 | exact (sz_of hd (x := x) ((preD_h (by omega) (by assumption)).trans (hdl_8 (by assumption)))).2.1 | exact (sz_of hd (x := x) ((preD_h (by omega) (by assumption)).trans (hdl_5 (by assumption) (by assumption)))).2.1 | exact (sz_of hd (x := x) (pd4 (by assumption) (by assumption) (by assumption))).2.1 | exact (sz_of hd (x := x) (pd6 (by assumption) (by assumption) (by assumption))).2.1 | exact (sz_of hd (x := x) (pd7 (by assumption) (by assumption))).2.1) (by first | exact (sz_of hd (x := x) (preD_1 (by assumption))).2.2 | exact (sz_of hd (x := x) ((preD_h (by omega) (by assumption)).trans (hdl_2 (by assumption)))).2.2 | exact (sz_of hd (x := x) ((preD_h (by omega) (by assumption)).trans (hdl_3 (by assumption)))).2.2 | exact (sz_of hd (x := x) ((preD_h (by omega) (by assumption)).trans (hdl_8 (by assumption)))).2.2 | exact (sz_of hd (x := x) ((preD_h (by omega) (by assumption)).trans (hdl_5 (by assumption) (by assumption)))).2.2 | exact (sz_of hd (x := x) (pd4 (by assumption) (by assumption) (by assumption))).2.2 | exact (sz_of hd (x := x) (pd6 (by assumption) (by assumption) (by assumption))).2.2 | exact (sz_of hd (x := x) (pd7 (by assumption) (by assumption))).2.2)) (Nat.le_of_ble_eq_true rfl) mv mT mN ?_
    cases hc24 : (okD ⟨uM (wrAt d.m (d.ws.getD x.a.toNat wz) x.b (IntKind.u8.wrap x.c)), d.ws, d.k + 1⟩)
    · iterate 2 refine dr_act wN mb ma mc mT mR ?_
      refine dr_nil (h1 _ ?_); clear h1
      refine ev_ret ?_
      rw [doD_z3 (pd4 (d := d) (x := x) (by assumption) (by assumption) (by assumption)) (by assumption)]
      exact retLR [] (res' := [.tmp 4]) mr (.tmp nT mL .nil) rfl ⟨by decide, by decide⟩ rfl trivial
    iterate 2 refine dr_act wN mb ma mc mT mR ?_
    refine dr_nil (h1 _ ?_); clear h1
    refine ev_weak (σ' := ⟨[(4, vb true)], [(0, ⟨116, 3, [[.ref (459, none) 0 ((uM (wrAt d.m (d.ws.getD x.a.toNat wz) x.b (IntKind.u8.wrap x.c))).length), .ref (683, none) 0 d.ws.length, vi (d.k + 1)]]⟩), (683, ⟨32, 4, d.ws.map cW⟩), (459, ⟨29, 1, (uM (wrAt d.m (d.ws.getD x.a.toNat wz) x.b (IntKind.u8.wrap x.c))).map cR⟩)], 699⟩) (weak_ren [(683, 2)] mK (chkR_cons mK (chkRm rfl (by decide) rfl (fun _ => rfl) (fun a => by first | rfl | simp [okC]) (chkRm rfl (by decide) rfl (fun _ => rfl) (fun a => by first | rfl | simp [okC]) trivial))) mD mQ) ?_
    refine ev_ret ?_
    rw [doD_some (by assumption) (by omega) (pd4 (d := d) (x := x) (by assumption) (by assumption) (by assumption)) (by first | assumption | rfl) (by assumption)]
    exact retLR [459, 683] (res' := [.tmp 4]) mr (.tmp nT mL .nil) rfl ⟨by decide, by decide⟩ rfl ⟨(rtB rfl (by first | rfl | (simp only [List.length_set]; rfl))), ⟨_, mr, rfl, rfl, rnMap (fun _ => rfl) _⟩, ⟨_, mr, rfl, rfl, rnMap (fun _ => rfl) _⟩, trivial⟩
  have hc8 := ne_of_beq_false hc8
  refine ev_cond false mlq (fun hz => by cases hz) (fun hz => ?_)
  refine ev_seq fun K2 h2 => ?_
  refine ev_rf mB ?_
  iterate 2 refine dr_act wN mb ma mc mT mR ?_
  refine dr_nil (h2 _ ?_); clear h2
  cases hc9 : (x.t == 5)
  rotate_left
  · have hc9 := eq_of_beq hc9
    refine ev_cond true mlq (fun hz => ?_) (fun hz => by cases hz)
    refine ev_seq fun K2 h2 => ?_
    refine ev_rf mB ?_
    iterate 2 refine dr_act wN mb ma mc mT mR ?_
    refine dr_callF wN mr mb mx mr (c178 x.b) (Nat.le_of_ble_eq_true rfl) mv mT mN ?_
    refine dr_nil (h2 _ ?_); clear h2
    cases hc19 : (decide (0 ≤ x.b ∧ x.b ≤ 255))
    · have hc19 := of_decide_eq_false hc19
      refine ev_cond false mlq (fun hz => by cases hz) (fun hz => ?_)
      refine ev_skip (h1 _ ?_); clear h1
      refine ev_seq fun K1 h1 => ?_
      refine ev_weak (σ' := ⟨[(0, .ptr (0, none) 0 0), (4, vb false), (5, .ptr (35, none) 0 0), (7, vb false)], [(0, ⟨116, 3, [[.ref (1, none) 0 d.m.length, .ref (2, none) 0 d.ws.length, vi d.k]]⟩), (35, ⟨31, 1, [[.val (.slice none 0 0)]]⟩), (1, ⟨29, 1, d.m.map cR⟩), (2, ⟨32, 4, d.ws.map cW⟩)], 339⟩) (weak_ren [] mK (chkR_cons mK (chkR_cons mK (chkRm rfl (by decide) rfl (fun _ => rfl) (fun a => by first | rfl | simp [okC]) (chkRm rfl (by decide) rfl (fun _ => rfl) (fun a => by first | rfl | simp [okC]) trivial)))) mD mQ) ?_
      refine ev_rf mB ?_
      iterate 5 refine dr_act wN mb ma mc mT mR ?_
      refine dr_nil (h1 _ ?_); clear h1
      refine ev_seq fun K1 h1 => ?_
      refine ev_rf mB ?_
      iterate 5 refine dr_act wN mb ma mc mT mR ?_
      rw [wrap_of (x := d.k + 1) (by omega) (by omega)]
      iterate 3 refine dr_act wN mb ma mc mT mR ?_
      refine dr_nil (h1 _ ?_); clear h1
      refine ev_seq fun K1 h1 => ?_
      refine ev_rf mB ?_
      iterate 2 refine dr_act wN mb ma mc mT mR ?_
      iterate 4 refine dr_skip wG mT ?_
      iterate 2 refine dr_act wN mb ma mc mT mR ?_
      refine dr_nil (h1 _ ?_); clear h1
      refine ev_ret ?_
      rw [doD_z2 ((preD_h (d := d) (x := x) (by omega) (by assumption)).trans (hdl_5n (by assumption) (by assumption))) (by first | assumption | rfl)]
      exact retLR [] (res' := [.tmp 4]) mr (.tmp nT mL .nil) rfl ⟨by decide, by decide⟩ rfl trivial
    have hc19 := of_decide_eq_true hc19
    refine ev_cond true mlq (fun hz => ?_) (fun hz => by cases hz)
    refine ev_weak (σ' := ⟨[(0, .ptr (0, none) 0 0), (3, .ptr (3, none) 0 0), (4, vb false), (5, .ptr (35, none) 0 0), (7, vb false)], [(0, ⟨116, 3, [[.ref (1, none) 0 d.m.length, .ref (2, none) 0 d.ws.length, vi d.k]]⟩), (3, ⟨120, 4, [[vi x.t, vi x.a, vi x.b, vi x.c]]⟩), (35, ⟨31, 1, [[.val (.slice none 0 0)]]⟩), (1, ⟨29, 1, d.m.map cR⟩), (2, ⟨32, 4, d.ws.map cW⟩)], 339⟩) (weak_ren [] mK (chkR_cons mK (chkR_cons mK (chkR_cons mK (chkRm rfl (by decide) rfl (fun _ => rfl) (fun a => by first | rfl | simp [okC]) (chkRm rfl (by decide) rfl (fun _ => rfl) (fun a => by first | rfl | simp [okC]) trivial))))) mD mQ) ?_
    refine ev_reg mB ?_
    iterate 16 refine dr_act wN mb ma mc mT mR ?_
    refine dr_ixp wN mr mb ml ml mr mS (by omega) (ik := x.a.toNat) (by omega) mT ?_
    refine dr_ldp (g := cW) wz wN mr mb ml mr (by omega) mZ mV2 mT ?_
    iterate 4 refine dr_act wN mb ma mc mT mR ?_
    refine dr_call wN mr mb mx (.cons (.agg (.cons (fM mr rfl) .nil)) (.cons (fN rfl) (.cons (.cell (fEls mr rfl rfl)) .nil))) (c180k d.m (d.ws.getD x.a.toNat wz) [IntKind.u8.wrap x.b] hWv mh mh mh) (Nat.le_of_ble_eq_true rfl) mv mT mN ?_
    iterate 5 refine dr_act wN mb ma mc mT mR ?_
    refine dr_ixp wN mr mb ml ml mr mS (by omega) (ik := x.a.toNat) (by omega) mT ?_
    refine dr_stp (r' := ⟨32, 4, (d.ws.set x.a.toNat ((uMW (apM d.m (d.ws.getD x.a.toNat wz) [IntKind.u8.wrap x.b])).2)).map cW⟩) wN mr mb ml mr mr ml ⟨rfl, mlz⟩ mA ⟨(by rw [List.length_map]; omega), mA⟩ (set_put wz (by omega) rfl) rfl mT mR ?_
    refine dr_act wN mb ma mc mT mR ?_
    refine dr_nil ⟨fun _ => by kernel_rfl, h1 _ ?_⟩; clear h1
    refine ev_seq fun K1 h1 => ?_
    refine ev_rf mB ?_
    iterate 5 refine dr_act wN mb ma mc mT mR ?_
    refine dr_nil (h1 _ ?_); clear h1
    refine ev_seq fun K1 h1 => ?_
    refine ev_rf mB ?_
    iterate 5 refine dr_act wN mb ma mc mT mR ?_
    rw [wrap_of (x := d.k + 1) (by omega) (by omega)]
    iterate 3 refine dr_act wN mb ma mc mT mR ?_
    refine dr_nil (h1 _ ?_); clear h1
    refine ev_seq fun K1 h1 => ?_
    refine ev_weak (σ' := ⟨[(0, .ptr (0, none) 0 0), (4, vb false), (7, vb ((apM d.m (d.ws.getD x.a.toNat wz) [IntKind.u8.wrap x.b]).isSome))], [(0, ⟨116, 3, [[.ref (515, none) 0 (((uMW (apM d.m (d.ws.getD x.a.toNat wz) [IntKind.u8.wrap x.b])).1).length), .ref (2, none) 0 d.ws.length, vi (d.k + 1)]]⟩), (1, ⟨29, 1, d.m.map cR⟩), (2, ⟨32, 4, (d.ws.set x.a.toNat ((uMW (apM d.m (d.ws.getD x.a.toNat wz) [IntKind.u8.wrap x.b])).2)).map cW⟩), (515, ⟨29, 1, ((uMW (apM d.m (d.ws.getD x.a.toNat wz) [IntKind.u8.wrap x.b])).1).map cR⟩)], 691⟩) (weak_ren [] mK (chkR_cons mK (chkRm rfl (by decide) rfl (fun _ => rfl) (fun a => by first | rfl | simp [okC]) (chkRm rfl (by decide) rfl (fun _ => rfl) (fun a => by first | rfl | simp [okC]) (chkRm rfl (by decide) rfl (fun _ => rfl) (fun a => by first | rfl | simp [okC]) trivial)))) mD mQ) ?_
    refine ev_rf mB ?_
    iterate 2 refine dr_act wN mb ma mc mT mR ?_
    cases hc20 : ((apM d.m (d.ws.getD x.a.toNat wz) [IntKind.u8.wrap x.b]).isSome)
    · iterate 4 refine dr_skip wG mT ?_
      iterate 2 refine dr_act wN mb ma mc mT mR ?_
      refine dr_nil (h1 _ ?_); clear h1
      refine ev_ret ?_
      rw [doD_z2 ((preD_h (d := d) (x := x) (by omega) (by assumption)).trans (hdl_5 (by assumption) (by assumption))) (by first | assumption | rfl)]
      exact retLR [] (res' := [.tmp 4]) mr (.tmp nT mL .nil) rfl ⟨by decide, by decide⟩ rfl trivial
    iterate 3 refine dr_act wG mb ma mc mT mR ?_
    refine dr_call wG mr mb mx (.cons (.agg (.cons (fM mr rfl) (.cons (fWS mr (by simp only [List.length_set, List.length_replicate, wrM_len])) (.cons (fn rfl) .nil)))) .nil) (c139 ⟨(uMW (apM d.m (d.ws.getD x.a.toNat wz) [IntKind.u8.wrap x.b])).1, d.ws.set x.a.toNat ((uMW (apM d.m (d.ws.getD x.a.toNat wz) [IntKind.u8.wrap x.b])).2), d.k + 1⟩ (by first | exact (sz_of hd (x := x) (preD_1 (by assumption))).1 | exact (sz_of hd (x := x) ((preD_h (by omega) (by assumption)).trans (hdl_2 (by assumption)))).1 | exact (sz_of hd (x := x) ((preD_h (by omega) (by assumption)).trans (hdl_3 (by assumption)))).1 | exact (sz_of hd (x := x) ((preD_h (by omega) (by assumption)).trans (hdl_8 (by assumption)))).1 | exact (sz_of hd (x := x) ((preD_h (by omega) (by assumption)).trans (hdl_5 (by assumption) (by assumption)))).1 | exact (sz_of hd (x := x) (pd4 (by assumption) (by assumption) (by assumption))).1 | exact (sz_of hd (x := x) (pd6 (by assumption) (by assumption) (by assumption))).1 | exact (sz_of hd (x := x) (pd7 (by assumption) (by assumption))).1) (by first | exact (sz_of hd (x := x) (preD_1 (by assumption))).2.1 | exact (sz_of hd (x := x) ((preD_h (by omega) (by assumption)).trans (hdl_2 (by assumption)))).2.1 | exact (sz_of hd (x := x) ((preD_h (by omega) (by assumption)).trans (hdl_3 (by assumption)))).2.1 | exact (sz_of hd (x := x) ((preD_h (by omega) (by assumption)).trans (hdl_8 (by assumption)))).2.1 | exact (sz_of hd (x := x) ((preD_h (by omega) (by assumption)).trans (hdl_5 (by assumption) (by assumption)))).2.1 | exact (sz_of hd (x := x) (pd4 (by assumption) (by assumption) (by assumption))).2.1 | exact (sz_of hd (x := x) (pd6 (by assumption) (by assumption) (by assumption))).2.1 | exact (sz_of hd (x := x) (pd7 (by assumption) (by assumption))).2.1) (by first | exact (sz_of hd (x := x) (preD_1 (by assumption))).2.2 | exact (sz_of hd (x := x) ((preD_h (by omega) (by assumption)).trans (hdl_2 (by assumption)))).2.2 | exact (sz_of hd (x := x) ((preD_h (by omega) (by assumption)).trans (hdl_3 (by assumption)))).2.2 | exact (sz_of hd (x := x) ((preD_h (by omega) (by assumption)).trans (hdl_8 (by assumption)))).2.2 | exact (sz_of hd (x := x) ((preD_h (by omega) (by assumption)).trans (hdl_5 (by assumption) (by assumption)))).2.2 | exact (sz_of hd (x := x) (pd4 (by assumption) (by assumption) (by assumption))).2.2 | exact (sz_of hd (x := x) (pd6 (by assumption) (by assumption) (by assumption))).2.2 | exact (sz_of hd (x := x) (pd7 (by assumption) (by assumption))).2.2)) (Nat.le_of_ble_eq_true rfl) mv mT mN ?_
    cases hc21 : (okD ⟨(uMW (apM d.m (d.ws.getD x.a.toNat wz) [IntKind.u8.wrap x.b])).1, d.ws.set x.a.toNat ((uMW (apM d.m (d.ws.getD x.a.toNat wz) [IntKind.u8.wrap x.b])).2), d.k + 1⟩)
    · iterate 2 refine dr_act wN mb ma mc mT mR ?_
      refine dr_nil (h1 _ ?_); clear h1
      refine ev_ret ?_
      rw [doD_z3 ((preD_h (d := d) (x := x) (by omega) (by assumption)).trans (hdl_5 (by assumption) (by assumption))) (by assumption)]
      exact retLR [] (res' := [.tmp 4]) mr (.tmp nT mL .nil) rfl ⟨by decide, by decide⟩ rfl trivial
    iterate 2 refine dr_act wN mb ma mc mT mR ?_
    refine dr_nil (h1 _ ?_); clear h1
    refine ev_weak (σ' := ⟨[(4, vb true)], [(0, ⟨116, 3, [[.ref (515, none) 0 (((uMW (apM d.m (d.ws.getD x.a.toNat wz) [IntKind.u8.wrap x.b])).1).length), .ref (763, none) 0 d.ws.length, vi (d.k + 1)]]⟩), (763, ⟨32, 4, (d.ws.set x.a.toNat ((uMW (apM d.m (d.ws.getD x.a.toNat wz) [IntKind.u8.wrap x.b])).2)).map cW⟩), (515, ⟨29, 1, ((uMW (apM d.m (d.ws.getD x.a.toNat wz) [IntKind.u8.wrap x.b])).1).map cR⟩)], 779⟩) (weak_ren [(763, 2)] mK (chkR_cons mK (chkRm rfl (by decide) rfl (fun _ => rfl) (fun a => by first | rfl | simp [okC]) (chkRm rfl (by decide) rfl (fun _ => rfl) (fun a => by first | rfl | simp [okC]) trivial))) mD mQ) ?_
    refine ev_ret ?_
    rw [doD_some (by assumption) (by omega) ((preD_h (d := d) (x := x) (by omega) (by assumption)).trans (hdl_5 (by assumption) (by assumption))) (by first | assumption | rfl) (by assumption)]
    exact retLR [515, 763] (res' := [.tmp 4]) mr (.tmp nT mL .nil) rfl ⟨by decide, by decide⟩ rfl ⟨(rtB rfl (by first | rfl | (simp only [List.length_set]; rfl))), ⟨_, mr, rfl, rfl, rnMap (fun _ => rfl) _⟩, ⟨_, mr, rfl, rfl, rnMap (fun _ => rfl) _⟩, trivial⟩
  have hc9 := ne_of_beq_false hc9
  refine ev_cond false mlq (fun hz => by cases hz) (fun hz => ?_)
  refine ev_seq fun K2 h2 => ?_
  refine ev_rf mB ?_
  iterate 2 refine dr_act wN mb ma mc mT mR ?_
  refine dr_nil (h2 _ ?_); clear h2
  cases hc10 : (x.t == 6)
  rotate_left
  · have hc10 := eq_of_beq hc10
    refine ev_cond true mlq (fun hz => ?_) (fun hz => by cases hz)
    refine ev_seq fun K2 h2 => ?_
    refine ev_weak (σ' := ⟨[(0, .ptr (0, none) 0 0), (3, .ptr (3, none) 0 0), (4, vb false), (5, .ptr (35, none) 0 0), (7, vb false)], [(0, ⟨116, 3, [[.ref (1, none) 0 d.m.length, .ref (2, none) 0 d.ws.length, vi d.k]]⟩), (3, ⟨120, 4, [[vi x.t, vi x.a, vi x.b, vi x.c]]⟩), (35, ⟨31, 1, [[.val (.slice none 0 0)]]⟩), (1, ⟨29, 1, d.m.map cR⟩), (2, ⟨32, 4, d.ws.map cW⟩)], 331⟩) (weak_ren [] mK (chkR_cons mK (chkR_cons mK (chkR_cons mK (chkRm rfl (by decide) rfl (fun _ => rfl) (fun a => by first | rfl | simp [okC]) (chkRm rfl (by decide) rfl (fun _ => rfl) (fun a => by first | rfl | simp [okC]) trivial))))) mD mQ) ?_
    refine ev_reg mB ?_
    iterate 6 refine dr_act wN mb ma mc mT mR ?_
    refine dr_call wN mr mb mx (.cons (.agg (.cons (fM mr rfl) (.cons (fWS mr rfl) (.cons (fn rfl) .nil)))) (.cons (.cell (fEls mr rfl rfl)) .nil)) (c175a d x.b mh) (Nat.le_of_ble_eq_true rfl) mv mT mN ?_
    refine dr_nil ⟨fun _ => by kernel_rfl, h2 _ ?_⟩; clear h2
    cases hc16 : (decide (0 ≤ x.b ∧ x.b ≤ (d.ws.length : Int) - 1))
    · have hc16 := of_decide_eq_false hc16
      refine ev_cond false mlq (fun hz => by cases hz) (fun hz => ?_)
      refine ev_skip (h1 _ ?_); clear h1
      refine ev_seq fun K1 h1 => ?_
      refine ev_rf mB ?_
      iterate 5 refine dr_act wN mb ma mc mT mR ?_
      refine dr_nil (h1 _ ?_); clear h1
      refine ev_seq fun K1 h1 => ?_
      refine ev_rf mB ?_
      iterate 5 refine dr_act wN mb ma mc mT mR ?_
      rw [wrap_of (x := d.k + 1) (by omega) (by omega)]
      iterate 3 refine dr_act wN mb ma mc mT mR ?_
      refine dr_nil (h1 _ ?_); clear h1
      refine ev_seq fun K1 h1 => ?_
      refine ev_rf mB ?_
      iterate 2 refine dr_act wN mb ma mc mT mR ?_
      iterate 4 refine dr_skip wG mT ?_
      iterate 2 refine dr_act wN mb ma mc mT mR ?_
      refine dr_nil (h1 _ ?_); clear h1
      refine ev_ret ?_
      rw [doD_z2 (pd6n (d := d) (x := x) (by assumption) (by assumption) (by assumption)) (by first | assumption | rfl)]
      exact retLR [] (res' := [.tmp 4]) mr (.tmp nT mL .nil) rfl ⟨by decide, by decide⟩ rfl trivial
    have hc16 := of_decide_eq_true hc16
    refine ev_cond true mlq (fun hz => ?_) (fun hz => by cases hz)
    refine ev_reg mB ?_
    iterate 10 refine dr_act wN mb ma mc mT mR ?_
    refine dr_ixp wN mr mb ml ml mr mS (by omega) (ik := x.a.toNat) (by omega) mT ?_
    refine dr_ldp (g := cW) wz wN mr mb ml mr (by omega) mZ mV2 mT ?_
    iterate 6 refine dr_act wN mb ma mc mT mR ?_
    refine dr_ixp wN mr mb ml ml mr mS (by omega) (ik := x.b.toNat) (by omega) mT ?_
    refine dr_ldp (g := cW) wz wN mr mb ml mr (by omega) mZ mV2 mT ?_
    refine dr_call wN mr mb mx (.cons (.agg (.cons (fM mr rfl) .nil)) (.cons (fN rfl) (.cons (fN rfl) .nil))) (c181 d.m (d.ws.getD x.a.toNat wz) (d.ws.getD x.b.toNat wz) mh mh) (Nat.le_of_ble_eq_true rfl) mv mT mN ?_
    iterate 6 refine dr_act wN mb ma mc mT mR ?_
    refine dr_nil ⟨fun _ => by kernel_rfl, h1 _ ?_⟩; clear h1
    refine ev_seq fun K1 h1 => ?_
    refine ev_rf mB ?_
    iterate 5 refine dr_act wN mb ma mc mT mR ?_
    refine dr_nil (h1 _ ?_); clear h1
    refine ev_seq fun K1 h1 => ?_
    refine ev_weak (σ' := ⟨[(0, .ptr (0, none) 0 0), (4, vb false), (7, vb ((cpO d.m (d.ws.getD x.a.toNat wz) (d.ws.getD x.b.toNat wz)).isSome))], [(0, ⟨116, 3, [[.ref (547, none) 0 ((((cpO d.m (d.ws.getD x.a.toNat wz) (d.ws.getD x.b.toNat wz)).getD ([], 0)).1).length), .ref (2, none) 0 d.ws.length, vi d.k]]⟩), (1, ⟨29, 1, d.m.map cR⟩), (2, ⟨32, 4, d.ws.map cW⟩), (547, ⟨29, 1, (((cpO d.m (d.ws.getD x.a.toNat wz) (d.ws.getD x.b.toNat wz)).getD ([], 0)).1).map cR⟩)], 643⟩) (weak_ren [] mK (chkR_cons mK (chkRm rfl (by decide) rfl (fun _ => rfl) (fun a => by first | rfl | simp [okC]) (chkRm rfl (by decide) rfl (fun _ => rfl) (fun a => by first | rfl | simp [okC]) (chkRm rfl (by decide) rfl (fun _ => rfl) (fun a => by first | rfl | simp [okC]) trivial)))) mD mQ) ?_
    refine ev_rf mB ?_
    iterate 5 refine dr_act wN mb ma mc mT mR ?_
    rw [wrap_of (x := d.k + 1) (by omega) (by omega)]
    iterate 3 refine dr_act wN mb ma mc mT mR ?_
    refine dr_nil (h1 _ ?_); clear h1
    refine ev_seq fun K1 h1 => ?_
    refine ev_rf mB ?_
    iterate 2 refine dr_act wN mb ma mc mT mR ?_
    cases hc17 : ((cpO d.m (d.ws.getD x.a.toNat wz) (d.ws.getD x.b.toNat wz)).isSome)
    · iterate 4 refine dr_skip wG mT ?_
      iterate 2 refine dr_act wN mb ma mc mT mR ?_
      refine dr_nil (h1 _ ?_); clear h1
      refine ev_ret ?_
      rw [doD_z2 (pd6 (d := d) (x := x) (by assumption) (by assumption) (by assumption)) (by first | assumption | rfl)]
      exact retLR [] (res' := [.tmp 4]) mr (.tmp nT mL .nil) rfl ⟨by decide, by decide⟩ rfl trivial
    iterate 3 refine dr_act wG mb ma mc mT mR ?_
    refine dr_call wG mr mb mx (.cons (.agg (.cons (fM mr rfl) (.cons (fWS mr rfl) (.cons (fn rfl) .nil)))) .nil) (c139 ⟨((cpO d.m (d.ws.getD x.a.toNat wz) (d.ws.getD x.b.toNat wz)).getD ([], 0)).1, d.ws, d.k + 1⟩ (by first | exact (sz_of hd (x := x) (preD_1 (by assumption))).1 | exact (sz_of hd (x := x) ((preD_h (by omega) (by assumption)).trans (hdl_2 (by assumption)))).1 | exact (sz_of hd (x := x) ((preD_h (by omega) (by assumption)).trans (hdl_3 (by assumption)))).1 | exact (sz_of hd (x := x) ((preD_h (by omega) (by assumption)).trans (hdl_8 (by assumption)))).1 | exact (sz_of hd (x := x) ((preD_h (by omega) (by assumption)).trans (hdl_5 (by assumption) (by assumption)))).1 | exact (sz_of hd (x := x) (pd4 (by assumption) (by assumption) (by assumption))).1 | exact (sz_of hd (x := x) (pd6 (by assumption) (by assumption) (by assumption))).1 | exact (sz_of hd (x := x) (pd7 (by assumption) (by assumption))).1) (by first | exact (sz_of hd (x := x) (preD_1 (by assumption))).2.1 | exact (sz_of hd (x := x) ((preD_h (by omega) (by assumption)).trans (hdl_2 (by assumption)))).2.1 | exact (sz_of hd (x := x) ((preD_h (by omega) (by assumption)).trans (hdl_3 (by assumption)))).2.1 | exact (sz_of hd (x := x) ((preD_h (by omega) (by assumption)).trans (hdl_8 (by assumption)))).2.1 | exact (sz_of hd (x := x) ((preD_h (by omega) (by assumption)).trans (hdl_5 (by assumption) (by assumption)))).2.1 | exact (sz_of hd (x := x) (pd4 (by assumption) (by assumption) (by assumption))).2.1 | exact (sz_of hd (x := x) (pd6 (by assumption) (by assumption) (by assumption))).2.1 | exact (sz_of hd (x := x) (pd7 (by assumption) (by assumption))).2.1) (by first | exact (sz_of hd (x := x) (preD_1 (by assumption))).2.2 | exact (sz_of hd (x := x) ((preD_h (by omega) (by assumption)).trans (hdl_2 (by assumption)))).2.2 | exact (sz_of hd (x := x) ((preD_h (by omega) (by assumption)).trans (hdl_3 (by assumption)))).2.2 | exact (sz_of hd (x := x) ((preD_h (by omega) (by assumption)).trans (hdl_8 (by assumption)))).2.2 | exact (sz_of hd (x := x) ((preD_h (by omega) (by assumption)).trans (hdl_5 (by assumption) (by assumption)))).2.2 | exact (sz_of hd (x := x) (pd4 (by assumption) (by assumption) (by assumption))).2.2 | exact (sz_of hd (x := x) (pd6 (by assumption) (by assumption) (by assumption))).2.2 | exact (sz_of hd (x := x) (pd7 (by assumption) (by assumption))).2.2)) (Nat.le_of_ble_eq_true rfl) mv mT mN ?_
    cases hc18 : (okD ⟨((cpO d.m (d.ws.getD x.a.toNat wz) (d.ws.getD x.b.toNat wz)).getD ([], 0)).1, d.ws, d.k + 1⟩)
    · iterate 2 refine dr_act wN mb ma mc mT mR ?_
      refine dr_nil (h1 _ ?_); clear h1
      refine ev_ret ?_
      rw [doD_z3 (pd6 (d := d) (x := x) (by assumption) (by assumption) (by assumption)) (by assumption)]
      exact retLR [] (res' := [.tmp 4]) mr (.tmp nT mL .nil) rfl ⟨by decide, by decide⟩ rfl trivial
    iterate 2 refine dr_act wN mb ma mc mT mR ?_
    refine dr_nil (h1 _ ?_); clear h1
    refine ev_weak (σ' := ⟨[(4, vb true)], [(0, ⟨116, 3, [[.ref (547, none) 0 ((((cpO d.m (d.ws.getD x.a.toNat wz) (d.ws.getD x.b.toNat wz)).getD ([], 0)).1).length), .ref (779, none) 0 d.ws.length, vi (d.k + 1)]]⟩), (779, ⟨32, 4, d.ws.map cW⟩), (547, ⟨29, 1, (((cpO d.m (d.ws.getD x.a.toNat wz) (d.ws.getD x.b.toNat wz)).getD ([], 0)).1).map cR⟩)], 795⟩) (weak_ren [(779, 2)] mK (chkR_cons mK (chkRm rfl (by decide) rfl (fun _ => rfl) (fun a => by first | rfl | simp [okC]) (chkRm rfl (by decide) rfl (fun _ => rfl) (fun a => by first | rfl | simp [okC]) trivial))) mD mQ) ?_
    refine ev_ret ?_
    rw [doD_some (by assumption) (by omega) (pd6 (d := d) (x := x) (by assumption) (by assumption) (by assumption)) (by first | assumption | rfl) (by assumption)]
    exact retLR [547, 779] (res' := [.tmp 4]) mr (.tmp nT mL .nil) rfl ⟨by decide, by decide⟩ rfl ⟨(rtB rfl (by first | rfl | (simp only [List.length_set]; rfl))), ⟨_, mr, rfl, rfl, rnMap (fun _ => rfl) _⟩, ⟨_, mr, rfl, rfl, rnMap (fun _ => rfl) _⟩, trivial⟩
  have hc10 := ne_of_beq_false hc10
  refine ev_cond false mlq (fun hz => by cases hz) (fun hz => ?_)
  refine ev_seq fun K2 h2 => ?_
  refine ev_weak (σ' := ⟨[(0, .ptr (0, none) 0 0), (3, .ptr (3, none) 0 0), (4, vb false), (5, .ptr (35, none) 0 0), (7, vb false), (29, vi x.t)], [(0, ⟨116, 3, [[.ref (1, none) 0 d.m.length, .ref (2, none) 0 d.ws.length, vi d.k]]⟩), (3, ⟨120, 4, [[vi x.t, vi x.a, vi x.b, vi x.c]]⟩), (35, ⟨31, 1, [[.val (.slice none 0 0)]]⟩), (1, ⟨29, 1, d.m.map cR⟩), (2, ⟨32, 4, d.ws.map cW⟩)], 331⟩) (weak_ren [] mK (chkR_cons mK (chkR_cons mK (chkR_cons mK (chkRm rfl (by decide) rfl (fun _ => rfl) (fun a => by first | rfl | simp [okC]) (chkRm rfl (by decide) rfl (fun _ => rfl) (fun a => by first | rfl | simp [okC]) trivial))))) mD mQ) ?_
  refine ev_rf mB ?_
  iterate 2 refine dr_act wN mb ma mc mT mR ?_
  refine dr_nil (h2 _ ?_); clear h2
  cases hc11 : (x.t == 7)
  rotate_left
  · have hc11 := eq_of_beq hc11
    refine ev_cond true mlq (fun hz => ?_) (fun hz => by cases hz)
    refine ev_reg mB ?_
    iterate 10 refine dr_act wN mb ma mc mT mR ?_
    refine dr_ixp wN mr mb ml ml mr mS (by omega) (ik := x.a.toNat) (by omega) mT ?_
    refine dr_ldp (g := cW) wz wN mr mb ml mr (by omega) mZ mV2 mT ?_
    iterate 2 refine dr_act wN mb ma mc mT mR ?_
    refine dr_call wN mr mb mx (.cons (.agg (.cons (fM mr rfl) .nil)) (.cons (fN rfl) (.cons (fN rfl) .nil))) (c182 d.m (d.ws.getD x.a.toNat wz) x.b mh mh) (Nat.le_of_ble_eq_true rfl) mv mT mN ?_
    iterate 5 refine dr_act wN mb ma mc mT mR ?_
    refine dr_nil ⟨fun _ => by kernel_rfl, h1 _ ?_⟩; clear h1
    refine ev_seq fun K1 h1 => ?_
    refine ev_rf mB ?_
    iterate 5 refine dr_act wN mb ma mc mT mR ?_
    refine dr_nil (h1 _ ?_); clear h1
    refine ev_seq fun K1 h1 => ?_
    refine ev_rf mB ?_
    iterate 5 refine dr_act wN mb ma mc mT mR ?_
    rw [wrap_of (x := d.k + 1) (by omega) (by omega)]
    iterate 3 refine dr_act wN mb ma mc mT mR ?_
    refine dr_nil (h1 _ ?_); clear h1
    refine ev_seq fun K1 h1 => ?_
    refine ev_rf mB ?_
    iterate 2 refine dr_act wN mb ma mc mT mR ?_
    cases hc14 : ((tnO d.m (d.ws.getD x.a.toNat wz) x.b).isSome)
    · iterate 4 refine dr_skip wG mT ?_
      iterate 2 refine dr_act wN mb ma mc mT mR ?_
      refine dr_nil (h1 _ ?_); clear h1
      refine ev_ret ?_
      rw [doD_z2 (pd7 (d := d) (x := x) (by assumption) (by assumption)) (by first | assumption | rfl)]
      exact retLR [] (res' := [.tmp 4]) mr (.tmp nT mL .nil) rfl ⟨by decide, by decide⟩ rfl trivial
    iterate 3 refine dr_act wG mb ma mc mT mR ?_
    refine dr_call wG mr mb mx (.cons (.agg (.cons (fM mr rfl) (.cons (fWS mr rfl) (.cons (fn rfl) .nil)))) .nil) (c139 ⟨uM (tnO d.m (d.ws.getD x.a.toNat wz) x.b), d.ws, d.k + 1⟩ (by first | exact (sz_of hd (x := x) (preD_1 (by assumption))).1 | exact (sz_of hd (x := x) ((preD_h (by omega) (by assumption)).trans (hdl_2 (by assumption)))).1 | exact (sz_of hd (x := x) ((preD_h (by omega) (by assumption)).trans (hdl_3 (by assumption)))).1 | exact (sz_of hd (x := x) ((preD_h (by omega) (by assumption)).trans (hdl_8 (by assumption)))).1 | exact (sz_of hd (x := x) ((preD_h (by omega) (by assumption)).trans (hdl_5 (by assumption) (by assumption)))).1 | exact (sz_of hd (x := x) (pd4 (by assumption) (by assumption) (by assumption))).1 | exact (sz_of hd (x := x) (pd6 (by assumption) (by assumption) (by assumption))).1 | exact (sz_of hd (x := x) (pd7 (by assumption) (by assumption))).1) (by first | exact (sz_of hd (x := x) (preD_1 (by assumption))).2.1 | exact (sz_of hd (x := x) ((preD_h (by omega) (by assumption)).trans (hdl_2 (by assumption)))).2.1 | exact (sz_of hd (x := x) ((preD_h (by omega) (by assumption)).trans (hdl_3 (by assumption)))).2.1 | exact (sz_of hd (x := x) ((preD_h (by omega) (by assumption)).trans (hdl_8 (by assumption)))).2.1 | exact (sz_of hd (x := x) ((preD_h (by omega) (by assumption)).trans (hdl_5 (by assumption) (by assumption)))).2.1 | exact (sz_of hd (x := x) (pd4 (by assumption) (by assumption) (by assumption))).2.1 | exact (sz_of hd (x := x) (pd6 (by assumption) (by assumption) (by assumption))).2.1 | exact (sz_of hd (x := x) (pd7 (by assumption) (by assumption))).2.1) (by first | exact (sz_of hd (x := x) (preD_1 (by assumption))).2.2 | exact (sz_of hd (x := x) ((preD_h (by omega) (by assumption)).trans (hdl_2 (by assumption)))).2.2 | exact (sz_of hd (x := x) ((preD_h (by omega) (by assumption)).trans (hdl_3 (by assumption)))).2.2 | exact (sz_of hd (x := x) ((preD_h (by omega) (by assumption)).trans (hdl_8 (by assumption)))).2.2 | exact (sz_of hd (x := x) ((preD_h (by omega) (by assumption)).trans (hdl_5 (by assumption) (by assumption)))).2.2 | exact (sz_of hd (x := x) (pd4 (by assumption) (by assumption) (by assumption))).2.2 | exact (sz_of hd (x := x) (pd6 (by assumption) (by assumption) (by assumption))).2.2 | exact (sz_of hd (x := x) (pd7 (by assumption) (by assumption))).2.2)) (Nat.le_of_ble_eq_true rfl) mv mT mN ?_
    cases hc15 : (okD ⟨uM (tnO d.m (d.ws.getD x.a.toNat wz) x.b), d.ws, d.k + 1⟩)
    · iterate 2 refine dr_act wN mb ma mc mT mR ?_
      refine dr_nil (h1 _ ?_); clear h1
      refine ev_ret ?_
      rw [doD_z3 (pd7 (d := d) (x := x) (by assumption) (by assumption)) (by assumption)]
      exact retLR [] (res' := [.tmp 4]) mr (.tmp nT mL .nil) rfl ⟨by decide, by decide⟩ rfl trivial
    iterate 2 refine dr_act wN mb ma mc mT mR ?_
    refine dr_nil (h1 _ ?_); clear h1
    refine ev_weak (σ' := ⟨[(4, vb true)], [(0, ⟨116, 3, [[.ref (459, none) 0 ((uM (tnO d.m (d.ws.getD x.a.toNat wz) x.b)).length), .ref (683, none) 0 d.ws.length, vi (d.k + 1)]]⟩), (683, ⟨32, 4, d.ws.map cW⟩), (459, ⟨29, 1, (uM (tnO d.m (d.ws.getD x.a.toNat wz) x.b)).map cR⟩)], 699⟩) (weak_ren [(683, 2)] mK (chkR_cons mK (chkRm rfl (by decide) rfl (fun _ => rfl) (fun a => by first | rfl | simp [okC]) (chkRm rfl (by decide) rfl (fun _ => rfl) (fun a => by first | rfl | simp [okC]) trivial))) mD mQ) ?_
    refine ev_ret ?_
    rw [doD_some (by assumption) (by omega) (pd7 (d := d) (x := x) (by assumption) (by assumption)) (by first | assumption | rfl) (by assumption)]
    exact retLR [459, 683] (res' := [.tmp 4]) mr (.tmp nT mL .nil) rfl ⟨by decide, by decide⟩ rfl ⟨(rtB rfl (by first | rfl | (simp only [List.length_set]; rfl))), ⟨_, mr, rfl, rfl, rnMap (fun _ => rfl) _⟩, ⟨_, mr, rfl, rfl, rnMap (fun _ => rfl) _⟩, trivial⟩
  have hc11 := ne_of_beq_false hc11
  refine ev_cond false mlq (fun hz => by cases hz) (fun hz => ?_)
  refine ev_seq fun K2 h2 => ?_
  refine ev_rf mB ?_
  iterate 2 refine dr_act wN mb ma mc mT mR ?_
  refine dr_nil (h2 _ ?_); clear h2
  cases hc12 : (x.t == 8)
  · have hc12 := ne_of_beq_false hc12
    refine ev_cond false mlq (fun hz => by cases hz) (fun hz => ?_)
    refine ev_skip (h1 _ ?_); clear h1
    refine ev_seq fun K1 h1 => ?_
    refine ev_rf mB ?_
    iterate 5 refine dr_act wN mb ma mc mT mR ?_
    refine dr_nil (h1 _ ?_); clear h1
    refine ev_seq fun K1 h1 => ?_
    refine ev_rf mB ?_
    iterate 5 refine dr_act wN mb ma mc mT mR ?_
    rw [wrap_of (x := d.k + 1) (by omega) (by omega)]
    iterate 3 refine dr_act wN mb ma mc mT mR ?_
    refine dr_nil (h1 _ ?_); clear h1
    refine ev_seq fun K1 h1 => ?_
    refine ev_rf mB ?_
    iterate 2 refine dr_act wN mb ma mc mT mR ?_
    iterate 4 refine dr_skip wG mT ?_
    iterate 2 refine dr_act wN mb ma mc mT mR ?_
    refine dr_nil (h1 _ ?_); clear h1
    refine ev_ret ?_
    rw [doD_n2 (d := d) (x := x) (by omega)]
    exact retLR [] (res' := [.tmp 4]) mr (.tmp nT mL .nil) rfl ⟨by decide, by decide⟩ rfl trivial
  have hc12 := eq_of_beq hc12
  refine ev_cond true mlq (fun hz => ?_) (fun hz => by cases hz)
  refine ev_seq fun K2 h2 => ?_
  refine ev_rf mB ?_
  iterate 6 refine dr_act wN mb ma mc mT mR ?_
  refine dr_nil (h2 _ ?_); clear h2
  refine ev_reg mB ?_
  iterate 10 refine dr_act wN mb ma mc mT mR ?_
  rw [wrap_of (x := x.a + 1) (by omega) (by omega)]
  refine dr_callR [2] [] wN mr mbq mx (c183x d.ws x.a (x.a + 1) mh mh) (.ren rfl rfl (.ren rfl rfl (.ren rfl rfl .nil))) ⟨⟨_, mr, rfl, rfl, rnMap (fun _ => rfl) _, okMap (fun _ => rfl) _⟩, trivial⟩ ⟨⟨by decide, nz⟩, Nat.le_of_ble_eq_true rfl⟩ (v := .ref (491, none) 0 ((d.ws.take x.a.toNat ++ d.ws.drop (x.a + 1).toNat).length)) rfl mT mRR2 ?_
  iterate 3 refine dr_act wN mb ma mc mT mR ?_
  refine dr_nil ⟨fun _ => by kernel_rfl, h1 _ ?_⟩; clear h1
  refine ev_seq fun K1 h1 => ?_
  refine ev_rf mB ?_
  iterate 5 refine dr_act wN mb ma mc mT mR ?_
  refine dr_nil (h1 _ ?_); clear h1
  refine ev_seq fun K1 h1 => ?_
  refine ev_rf mB ?_
  iterate 5 refine dr_act wN mb ma mc mT mR ?_
  rw [wrap_of (x := d.k + 1) (by omega) (by omega)]
  iterate 3 refine dr_act wN mb ma mc mT mR ?_
  refine dr_nil (h1 _ ?_); clear h1
  refine ev_seq fun K1 h1 => ?_
  refine ev_rf mB ?_
  iterate 2 refine dr_act wN mb ma mc mT mR ?_
  iterate 3 refine dr_act wG mb ma mc mT mR ?_
  refine dr_call wG mr mb mx (.cons (.agg (.cons (fM mr rfl) (.cons (fWS mr rfl) (.cons (fn rfl) .nil)))) .nil) (c139 ⟨d.m, d.ws.take x.a.toNat ++ d.ws.drop (x.a + 1).toNat, d.k + 1⟩ (by first | exact (sz_of hd (x := x) (preD_1 (by assumption))).1 | exact (sz_of hd (x := x) ((preD_h (by omega) (by assumption)).trans (hdl_2 (by assumption)))).1 | exact (sz_of hd (x := x) ((preD_h (by omega) (by assumption)).trans (hdl_3 (by assumption)))).1 | exact (sz_of hd (x := x) ((preD_h (by omega) (by assumption)).trans (hdl_8 (by assumption)))).1 | exact (sz_of hd (x := x) ((preD_h (by omega) (by assumption)).trans (hdl_5 (by assumption) (by assumption)))).1 | exact (sz_of hd (x := x) (pd4 (by assumption) (by assumption) (by assumption))).1 | exact (sz_of hd (x := x) (pd6 (by assumption) (by assumption) (by assumption))).1 | exact (sz_of hd (x := x) (pd7 (by assumption) (by assumption))).1) (by first | exact (sz_of hd (x := x) (preD_1 (by assumption))).2.1 | exact (sz_of hd (x := x) ((preD_h (by omega) (by assumption)).trans (hdl_2 (by assumption)))).2.1 | exact (sz_of hd (x := x) ((preD_h (by omega) (by assumption)).trans (hdl_3 (by assumption)))).2.1 | exact (sz_of hd (x := x) ((preD_h (by omega) (by assumption)).trans (hdl_8 (by assumption)))).2.1 | exact (sz_of hd (x := x) ((preD_h (by omega) (by assumption)).trans (hdl_5 (by assumption) (by assumption)))).2.1 | exact (sz_of hd (x := x) (pd4 (by assumption) (by assumption) (by assumption))).2.1 | exact (sz_of hd (x := x) (pd6 (by assumption) (by assumption) (by assumption))).2.1 | exact (sz_of hd (x := x) (pd7 (by assumption) (by assumption))).2.1) (by first | exact (sz_of hd (x := x) (preD_1 (by assumption))).2.2 | exact (sz_of hd (x := x) ((preD_h (by omega) (by assumption)).trans (hdl_2 (by assumption)))).2.2 | exact (sz_of hd (x := x) ((preD_h (by omega) (by assumption)).trans (hdl_3 (by assumption)))).2.2 | exact (sz_of hd (x := x) ((preD_h (by omega) (by assumption)).trans (hdl_8 (by assumption)))).2.2 | exact (sz_of hd (x := x) ((preD_h (by omega) (by assumption)).trans (hdl_5 (by assumption) (by assumption)))).2.2 | exact (sz_of hd (x := x) (pd4 (by assumption) (by assumption) (by assumption))).2.2 | exact (sz_of hd (x := x) (pd6 (by assumption) (by assumption) (by assumption))).2.2 | exact (sz_of hd (x := x) (pd7 (by assumption) (by assumption))).2.2)) (Nat.le_of_ble_eq_true rfl) mv mT mN ?_
  cases hc13 : (okD ⟨d.m, d.ws.take x.a.toNat ++ d.ws.drop (x.a + 1).toNat, d.k + 1⟩)
  · iterate 2 refine dr_act wN mb ma mc mT mR ?_
    refine dr_nil (h1 _ ?_); clear h1
    refine ev_ret ?_
    rw [doD_z3 ((preD_h (d := d) (x := x) (by omega) (by assumption)).trans (hdl_8 (by assumption))) (by assumption)]
    exact retLR [] (res' := [.tmp 4]) mr (.tmp nT mL .nil) rfl ⟨by decide, by decide⟩ rfl trivial
  iterate 2 refine dr_act wN mb ma mc mT mR ?_
  refine dr_nil (h1 _ ?_); clear h1
  refine ev_weak (σ' := ⟨[(4, vb true)], [(0, ⟨116, 3, [[.ref (691, none) 0 d.m.length, .ref (491, none) 0 ((d.ws.take x.a.toNat ++ d.ws.drop (x.a + 1).toNat).length), vi (d.k + 1)]]⟩), (491, ⟨32, 4, (d.ws.take x.a.toNat ++ d.ws.drop (x.a + 1).toNat).map cW⟩), (691, ⟨29, 1, d.m.map cR⟩)], 715⟩) (weak_ren [(691, 1)] mK (chkR_cons mK (chkRm rfl (by decide) rfl (fun _ => rfl) (fun a => by first | rfl | simp [okC]) (chkRm rfl (by decide) rfl (fun _ => rfl) (fun a => by first | rfl | simp [okC]) trivial))) mD mQ) ?_
  refine ev_ret ?_
  rw [doD_some (by assumption) (by omega) ((preD_h (d := d) (x := x) (by omega) (by assumption)).trans (hdl_8 (by assumption))) (by first | assumption | rfl) (by assumption)]
  exact retLR [691, 491] (res' := [.tmp 4]) mr (.tmp nT mL .nil) rfl ⟨by decide, by decide⟩ rfl ⟨(rtB rfl (by first | rfl | (simp only [List.length_set]; rfl))), ⟨_, mr, rfl, rfl, rnMap (fun _ => rfl) _⟩, ⟨_, mr, rfl, rfl, rnMap (fun _ => rfl) _⟩, trivial⟩
end Go.Ev
