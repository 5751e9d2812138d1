/- This text proves the given statement of the law FnExactGiveAll: for every input the law returns true and its arguments read afterwards as before. Conditions: those of the given row and no other. -/
import Derived.Test.YtmkcbbbknbahgaaCFnExactGiveAll3
import Derived.Test.YtmkcbbbknbahgaaRows
import Derived.WalkKit
import Derived.ProofKit
import Derived.OpenShut
import Derived.ShutString
import Derived.ChangeOld
import Derived.Below
import Derived.SizedLaws
namespace Go.Proofs.Ytmkcbbbknbahgaa.P
open Go.RowKit Go.Proofs.YtmkcbbbknbahgaaW.PrintWords Go.Proofs.YtmkcbbbknbahgaaW.PrintLast Go.Proofs.YtmkcbbbknbahgaaW.PrintMore
attribute [local go_sem] max2_int min2_int max_two min_two max_three min_three max_four min_four   -- for this text's walks alone
set_option linter.unusedVariables false
set_option linter.unusedSimpArgs false

def laws_toAskedS.l0 : Nat → List (S67) → List (S74) → Int → Option ((List (S74)))
 | 0, _, _, _ => none
 | k + 1, x0, x3, x4 => if x4 < (x0.length : Int) then (if 0 ≤ x4 then ((laws_toAsked.f ((rd_T67 x0 x4).f0) ((rd_T67 x0 x4).f1)).bind fun bt1070 => (if x4 < (x3.length : Int) then (laws_toAskedS.l0 k x0 (x3.set (x4 : Int).toNat (⟨bt1070.1, bt1070.2⟩ : S74)) (wrap64 (x4 + 1))) else (none))) else (none)) else (some x3)

def laws_toAskedS.f (k : Nat) (l0 : List (S67)) : Option ((List (S74))) := if 0 ≤ (l0.length : Int) then (if ((l0.length : Int) : Int).toNat ≤ 17592186044416 then (laws_toAskedS.l0 k l0 (List.replicate ((l0.length : Int) : Int).toNat z74) 0) else (none)) else (none)

set_option maxHeartbeats 8000000 in
set_option maxRecDepth 100000 in
theorem laws_toAskedS.calls (k : Nat) (A0 : Option Addr) (c0 : Nat) (l0 : List (S67)) (r : List (S74)) (w : World) (hr0 : Kd.C k67 w A0 l0.length l0) (hc0 : l0.length ≤ c0) (h : laws_toAskedS.f k l0 = some r) :
  Calls Try.prog 48 #[.slice A0 l0.length c0] w fun e w' => ∃ v0_ : Value, e = .returned (v0_) ∧ Kd.R k74 74 w' w.heap.size (fun _ => True) v0_ r ∧ Below w.heap.size w w' := by
 have hu67 := Try.underlying67
 have hu74 := Try.underlying74
 have HR0 := Aside0.mk hr0
 have HC0 := Aside0.mk hc0
 clear hr0 hc0
 have HB := Aside0.mk (Below.refl w.heap.size w)
 have H : (if 0 ≤ (l0.length : Int) then (if ((l0.length : Int) : Int).toNat ≤ 17592186044416 then (laws_toAskedS.l0 k l0 (List.replicate ((l0.length : Int) : Int).toNat z74) 0) else (none)) else (none)) = some r := h
 clear h
 by_cases c2 : 0 ≤ (l0.length : Int)
 ·rw [if_pos c2] at H
  have c2b0 := eq_true c2
  have c2b1 : decide (0 ≤ (l0.length : Int)) = true := decide_eq_true c2
  clear c2
  by_cases c3 : ((l0.length : Int) : Int).toNat ≤ 17592186044416
  ·rw [if_pos c3] at H
   have c3b0 := eq_true c3
   have c3b1 : decide (((l0.length : Int) : Int).toNat ≤ 17592186044416) = true := decide_eq_true c3
   clear c3
   obtain ⟨y1066, hy1066⟩ : ∃ y_ : List (S74), y_ = (List.replicate ((l0.length : Int) : Int).toNat z74) := ⟨_, rfl⟩
   replace H : (laws_toAskedS.l0 k l0 y1066 0) = some r := by first | (rw [hy1066]; with_reducible exact H) | (have H2_ := (Option.bind_some _ _).symm.trans H; rw [hy1066]; with_reducible exact H2_) | (have H2_ := (Option.bind_some _ _).symm.trans H; with_reducible exact H2_) | with_reducible exact H | (rw [hy1066]; exact H) | exact H
   have Ny1066 := Aside0.mk hy1066
   clear hy1066
   have H' := Aside0.mk H
   clear H
   go_enter Try.func48, Try.ntmps48
   go_wp2_with (first | ((with_reducible refine gate_dst (N := 7) rfl ?_); refine Kd.R_make k74 _ 74 rfl (N := 7) rfl 85 _ _ rfl (l0.length : Int) rfl rfl Try.underlying85 (.agg #[(.int .i64 0), (.int .i64 0)]) 16 info74 rfl (by decide) (by omega) z74 (ok := fun _ => True) (okp := fun _ => True) (k74_mkM _ _ _ z74 ) (fun _ hk => hk) trivial (of_decide_eq_true as_) (Nat.le_trans (Nat.mul_le_mul_right _ (of_decide_eq_true as_ : (l0.length : Int).toNat ≤ 17592186044416)) (by omega)) (Below.refl _ _) (Nat.le_refl _) ?_; intro v1067 w4 ho5 hb hg_ hnew_; clear hg_ hnew_; (first | rw [← Ny1066.out] at ho5 | (simp only [Int.reduceToNat] at ho5; rw [← Ny1066.out] at ho5)); have HO1068 := Aside0.mk (rL_ ho5 HB); replace HB := Aside0.mk (below_step (by repeat (first | (with_reducible first | exact HB.out | apply ba_ | apply bn_ | apply bd_) | exact HB.out)) hb); clear hb ho5))
   go_loopg [4] k (fun kq v4 w' => ∃ (x3_1 : List (S74)) (x4_1 : Int), v4 = .int .i64 x4_1 ∧ Aside0 (laws_toAskedS.l0 kq l0 x3_1 x4_1 = some r) ∧ Aside0 (kq ≤ k) ∧ Aside0 (Kd.R k74 74 w' w.heap.size (fun _ => True) v1067 x3_1) ∧ Aside0 (Below w.heap.size w w'))
   case atStart => exact ⟨(y1066), (0), (by first | rfl | (simp; done) | (simp [*]; done)), H', ⟨Nat.le_refl _⟩, ⟨by (with_reducible repeat first | apply kr1_ | apply kr2_ | apply kr3_); exact HO1068.out⟩, ⟨by repeat (first | (with_reducible first | exact HB.out | apply below_alloc | apply pw_below_drewN | apply below_drew1) | exact HB.out)⟩⟩
   case round =>
    clear H'
    try clear c2
    try clear c2b0
    try clear c2b1
    try clear p2
    try clear c3
    try clear c3b0
    try clear c3b1
    try clear c4
    obtain ⟨x3_1, x4_1, rfl, HA, HK1, HO_3, HB⟩ := hrel
    cases gk with
    | zero => exact absurd HA.out (by simp [laws_toAskedS.l0])
    | succ k1 =>
     have H := HA.out
     clear HA
     simp only [laws_toAskedS.l0] at H
     by_cases c6 : x4_1 < (l0.length : Int)
     ·rw [if_pos c6] at H
      have c6b0 : decide (x4_1 < (l0.length : Int)) = true := decide_eq_true c6
      clear c6
      by_cases c7 : 0 ≤ x4_1
      ·rw [if_pos c7] at H
       have c7b0 : decide (0 ≤ x4_1) = true := decide_eq_true c7
       clear c7
       replace H := Option.bind_eq_some_iff.mp H
       obtain ⟨⟨t1070, t1071⟩, A80, H⟩ := H
       replace H : (if x4_1 < (x3_1.length : Int) then (laws_toAskedS.l0 k1 l0 (x3_1.set (x4_1 : Int).toNat (⟨t1070, t1071⟩ : S74)) (wrap64 (x4_1 + 1))) else (none)) = some r := H
       have A8 := Aside0.mk A80
       clear A80
       by_cases c9 : x4_1 < (x3_1.length : Int)
       ·rw [if_pos c9] at H
        have c9b0 : decide (x4_1 < (x3_1.length : Int)) = true := decide_eq_true c9
        clear c9
        obtain ⟨y1072, hy1072⟩ : ∃ y_ : List (S74), y_ = (x3_1.set (x4_1 : Int).toNat (⟨t1070, t1071⟩ : S74)) := ⟨_, rfl⟩
        replace H : (laws_toAskedS.l0 k1 l0 y1072 (wrap64 (x4_1 + 1))) = some r := by first | (rw [hy1072]; with_reducible exact H) | (have H2_ := (Option.bind_some _ _).symm.trans H; rw [hy1072]; with_reducible exact H2_) | (have H2_ := (Option.bind_some _ _).symm.trans H; with_reducible exact H2_) | with_reducible exact H | (rw [hy1072]; exact H) | exact H
        have Ny1072 := Aside0.mk hy1072
        clear hy1072
        have H' := Aside0.mk H
        clear H
        have p1069 : 0 ≤ (x4_1 : Int) := of_decide_eq_true as_
        have q1069 : x4_1 < (l0.length : Int) := of_decide_eq_true as_
        obtain ⟨ad1069, e1069, hx1069_0, hx1069_1⟩ := at_T67 HR0.out x4_1 p1069 q1069
        cases e1069
        replace hx1069_0 := (HB.out.cell (World.block_lt_of_cell? w _ hx1069_0)).trans hx1069_0
        replace hx1069_1 := (HB.out.cell (World.block_lt_of_cell? w _ hx1069_1)).trans hx1069_1
        replace p1069 := eq_true p1069
        replace q1069 := eq_true q1069
        go_wp2_with (first | ((with_reducible refine gate_callee (f := 38) rfl ?_); refine goesL_ (some 20) rfl rfl Try.func38 (by kernel_rfl) rfl #[.agg #[.int .i64 ((rd_T67 l0 x4_1).f0), .int .i64 ((rd_T67 l0 x4_1).f1)]] rfl ar_ ?_; (with_reducible refine (laws_toAsked.calls ((rd_T67 l0 x4_1).f0) ((rd_T67 l0 x4_1).f1) t1070 t1071 _ A8.out).mono ?_); rintro e w11 ⟨rfl, hb⟩; refine ⟨_, rfl, ?_⟩; replace HO_3 := Aside0.mk (Kd.R_below (rK_ HO_3) hb); replace HB := Aside0.mk (below_step (by repeat (first | (with_reducible first | exact HB.out | apply ba_ | apply bn_ | apply bd_) | exact HB.out)) hb); (try clear hb); (try clear hb2); (try clear hk); (try clear hi); have p10 : 0 ≤ (x4_1 : Int) := of_decide_eq_true as_; have q10 : (x4_1 : Int) < ((x3_1.length : Int) : Int) := of_decide_eq_true as_; obtain ⟨go10, co10, eo10, gb10, gl10, cl10, HG10⟩ := Kd.R_form HO_3.out (by omega); (first | cases eo10 | (injection eo10 with ea_ en_ ec_; (first | subst ea_ | (injection ea_ with ea_; subst ea_)); subst ec_; clear en_)); have GB10 := Aside0.mk gb10; have GG10 := Aside0.mk HG10; clear gb10 gl10 HG10; obtain ⟨ce10, hcl10, hM10, hcc10, hfr10⟩ := Kd.R_elem HO_3.out z74 (x4_1 : Int) p10 q10; obtain rfl := k74_openM hM10; have hx10_0 : w11.cell? ⟨go10, (x4_1 : Int).toNat * 2, none⟩ = some (.int .i64 ((rd_T74 x3_1 x4_1).f0)) := hcc10 0 _ rfl; have hx10_1 : w11.cell? ⟨go10, (x4_1 : Int).toNat * 2 + 1, none⟩ = some (.int .i64 ((rd_T74 x3_1 x4_1).f1)) := hcc10 1 _ rfl; have hf10_0 : w11.frozen? ⟨go10, (x4_1 : Int).toNat * 2, none⟩ = false := hfr10 0; have hf10_1 : w11.frozen? ⟨go10, (x4_1 : Int).toNat * 2 + 1, none⟩ = false := hfr10 1; clear hcl10 hcc10 hfr10; (try clear hM10); replace p10 := eq_true p10; replace q10 := eq_true q10; have HX12 := Aside0.mk (show Kd.R k74 74 w11 w.heap.size (fun _ => True) (.slice (some ⟨go10, 0, none⟩) x3_1.length co10) x3_1 from (rK_ HO_3)); obtain ⟨ce12, hcl12, hM12, hcc12, hfr12⟩ := Kd.R_elem HX12.out z74 (x4_1 : Int) (of_decide_eq_true as_) (by have h_ : (x4_1 : Int) < ((x3_1.length : Int) : Int) := of_decide_eq_true as_; first | exact h_ | (have e_ := (Kd.R_reads' HO_3.out).1; omega) | simpa using h_); obtain rfl := k74_openM hM12; have HP12 := Kd.R_seg HX12.out (x4_1 : Int) (of_decide_eq_true as_) (by have h_ : (x4_1 : Int) < ((x3_1.length : Int) : Int) := of_decide_eq_true as_; first | exact h_ | (have e_ := (Kd.R_reads' HO_3.out).1; omega) | simpa using h_) (seg := [.int .i64 t1070, .int .i64 t1071]) (j := 0) hcl12 hcc12 (show 2 ≤ 2 from by decide) (x' := (⟨t1070, t1071⟩ : S74)) (k74_mkM _ _ _ (⟨t1070, t1071⟩ : S74) ) (fun _ hk => hk); have hx12_0 := hcc12 0 _ rfl; (try simp only [show (k74).sz = 2 from rfl, Nat.mul_one, Nat.add_zero] at hx12_0); have hf12_0 := hfr12 0; (try simp only [show (k74).sz = 2 from rfl, Nat.mul_one, Nat.add_zero] at hf12_0); have hx12_1 := hcc12 1 _ rfl; (try simp only [show (k74).sz = 2 from rfl, Nat.mul_one, Nat.add_zero] at hx12_1); have hf12_1 := hfr12 1; (try simp only [show (k74).sz = 2 from rfl, Nat.mul_one, Nat.add_zero] at hf12_1); clear hcl12 hcc12 hfr12; (try clear hM12)) | ((with_reducible refine gate_store (t := 74) (p := 21) rfl ?_); refine store_event (t := 74) (p := 21) (v := ?vo_w13) (w1 := ((w11.setCell ⟨go10, (x4_1 : Int).toNat * 2, none⟩ (.int .i64 t1070)).setCell ⟨go10, (x4_1 : Int).toNat * 2 + 1, none⟩ (.int .i64 t1071))) ?hg ?ho ?hn ?hr ?_; (case ho => rfl); (case hg => rfl); (case hn => rfl); (case hr => exact gs_); intro w13 hw; have hg : w11.grownBy w13 (some go10) := (by rw [hw]; exact HP12.2); have hp_ : Kd.R k74 74 w13 w.heap.size (fun _ => True) (.slice (some ⟨go10, 0, none⟩) x3_1.length co10) y1072 := (by rw [hw, Ny1072.out]; exact HP12.1); clear HP12; replace HO_3 := Aside0.mk (hp_); replace HB := Aside0.mk ((by rw [hw]; exact below_set (below_set (HB.out) GB10.out) GB10.out : Below w.heap.size w w13)); clear hg hw hp_))
        go_roundg k1
        case measure => have := HK1.out; omega
        case rel => exact ⟨(y1072), (wrap64 (x4_1 + 1)), (by first | rfl | (simp; done) | (simp [*]; done)), H', ⟨by have := HK1.out; omega⟩, ⟨by (with_reducible repeat first | apply kr1_ | apply kr2_ | apply kr3_); exact HO_3.out⟩, ⟨by repeat (first | (with_reducible first | exact HB.out | apply below_alloc | apply pw_below_drewN | apply below_drew1) | exact HB.out)⟩⟩
       ·rw [if_neg c9] at H
        exact absurd H (by simp)
      ·rw [if_neg c7] at H
       exact absurd H (by simp)
     ·rw [if_neg c6] at H
      have c6b0 : decide (x4_1 < (l0.length : Int)) = false := decide_eq_false c6
      clear c6
      obtain rfl := Option.some.inj H
      go_wp2
      go_ret
      exact ⟨_, er_, by (with_reducible repeat first | apply kr1_ | apply kr2_ | apply kr3_); exact HO_3.out, by repeat (first | (with_reducible first | exact HB.out | apply below_alloc | apply pw_below_drewN | apply below_drew1) | exact HB.out)⟩
  ·rw [if_neg c3] at H
   exact absurd H (by simp)
 ·rw [if_neg c2] at H
  exact absurd H (by simp)
end Go.Proofs.Ytmkcbbbknbahgaa.P
namespace Go.Proofs.Ytmkcbbbknbahgaa.P
open Go.RowKit Go.Proofs.YtmkcbbbknbahgaaW.PrintWords Go.Proofs.YtmkcbbbknbahgaaW.PrintLast Go.Proofs.YtmkcbbbknbahgaaW.PrintMore
attribute [local go_sem] max2_int min2_int max_two min_two max_three min_three max_four min_four   -- for this text's walks alone
set_option linter.unusedVariables false
set_option linter.unusedSimpArgs false

def laws_eqWindowS.l0 : Nat → List (S32) → List (S32) → Int → Option (Bool)
 | 0, _, _, _ => none
 | k + 1, x0, x1, x5 => if x5 < (x0.length : Int) then (if 0 ≤ x5 then (if x5 < (x1.length : Int) then ((laws_eqWindow.f ((rd_T32 x0 x5).f0) ((rd_T32 x0 x5).f1) ((rd_T32 x0 x5).f2) ((rd_T32 x0 x5).f3) ((rd_T32 x1 x5).f0) ((rd_T32 x1 x5).f1) ((rd_T32 x1 x5).f2) ((rd_T32 x1 x5).f3)).bind fun t1075 => (if t1075 = true then (laws_eqWindowS.l0 k x0 x1 (wrap64 (x5 + 1))) else (some false))) else (none)) else (none)) else (some true)

def laws_eqWindowS.f (k : Nat) (l0 : List (S32)) (l1 : List (S32)) : Option (Bool) := if (l0.length : Int) = (l1.length : Int) then (laws_eqWindowS.l0 k l0 l1 0) else (some false)

def laws_eqWindowS.T6 : Bool × List (List Nat × List Nat) := (true, [([], []), ([], []), ([0, 1], [0, 1]), ([2], [2]), ([], []), ([], []), ([4, 5], [4, 5]), ([6], [6]), ([3, 7], [3, 7]), ([8], [8])])

def laws_eqWindowS.B6 : List Nat := [0, 0, 3, 7, 0, 0, 48, 112, 255, 511]

theorem laws_eqWindowS.tab6 : rtab .any (opsOf Try.f50 6) = laws_eqWindowS.T6 := by kernel_rfl

theorem laws_eqWindowS.bits6 : waitsOk laws_eqWindowS.T6.2 laws_eqWindowS.B6 = true := by kernel_rfl

set_option maxHeartbeats 8000000 in
set_option maxRecDepth 100000 in
theorem laws_eqWindowS.calls (k : Nat) (A0 : Option Addr) (c0 : Nat) (l0 : List (S32)) (A1 : Option Addr) (c1 : Nat) (l1 : List (S32)) (r : Bool) (w : World) (hr0 : Kd.C k32 w A0 l0.length l0) (hc0 : l0.length ≤ c0) (hr1 : Kd.C k32 w A1 l1.length l1) (hc1 : l1.length ≤ c1) (h : laws_eqWindowS.f k l0 l1 = some r) :
  Calls Try.prog 50 #[.slice A0 l0.length c0, .slice A1 l1.length c1] w fun e w' => e = .returned (.bool r) ∧ Below w.heap.size w w' := by
 have hu32 := Try.underlying32
 have HR0 := Aside0.mk hr0
 have HC0 := Aside0.mk hc0
 clear hr0 hc0
 have HR1 := Aside0.mk hr1
 have HC1 := Aside0.mk hc1
 clear hr1 hc1
 have HB := Aside0.mk (Below.refl w.heap.size w)
 have H : (if (l0.length : Int) = (l1.length : Int) then (laws_eqWindowS.l0 k l0 l1 0) else (some false)) = some r := h
 clear h
 by_cases c3 : (l0.length : Int) = (l1.length : Int)
 ·rw [if_pos c3] at H
  have c3b0 : ((l0.length : Int) == (l1.length : Int)) = true := beq_iff_eq.mpr c3
  have c3b1 : ((l0.length : Int) != (l1.length : Int)) = false := bne_eq_false_iff_eq.mpr c3
  have c3b2 : (l0.length == l1.length) = true := by first | simpa using c3 | (simp at c3 ⊢; omega)
  clear c3
  have H' := Aside0.mk H
  clear H
  go_enter Try.func50, Try.ntmps50
  go_wp2
  go_loopg [5] k (fun kq v5 w' => ∃ (x5_1 : Int), v5 = .int .i64 x5_1 ∧ Aside0 (laws_eqWindowS.l0 kq l0 l1 x5_1 = some r) ∧ Aside0 (kq ≤ k) ∧ Aside0 (Below w.heap.size w w'))
  case atStart => exact ⟨(0), (by first | rfl | (simp; done) | (simp [*]; done)), H', ⟨Nat.le_refl _⟩, ⟨by repeat (first | (with_reducible first | exact HB.out | apply below_alloc | apply pw_below_drewN | apply below_drew1) | exact HB.out)⟩⟩
  case round =>
   clear H'
   try clear c1
   try clear p2
   try clear c3
   try clear c3b0
   try clear c3b1
   try clear c3b2
   obtain ⟨x5_1, rfl, HA, HK1, HB⟩ := hrel
   cases gk with
   | zero => exact absurd HA.out (by simp [laws_eqWindowS.l0])
   | succ k1 =>
    have H := HA.out
    clear HA
    simp only [laws_eqWindowS.l0] at H
    by_cases c4 : x5_1 < (l0.length : Int)
    ·rw [if_pos c4] at H
     have c4b0 : decide (x5_1 < (l0.length : Int)) = true := decide_eq_true c4
     clear c4
     by_cases c5 : 0 ≤ x5_1
     ·rw [if_pos c5] at H
      have c5b0 : decide (0 ≤ x5_1) = true := decide_eq_true c5
      clear c5
      by_cases c6 : x5_1 < (l1.length : Int)
      ·rw [if_pos c6] at H
       have c6b0 : decide (x5_1 < (l1.length : Int)) = true := decide_eq_true c6
       clear c6
       replace H := Option.bind_eq_some_iff.mp H
       obtain ⟨t1075, A70, H⟩ := H
       replace H : (if t1075 = true then (laws_eqWindowS.l0 k1 l0 l1 (wrap64 (x5_1 + 1))) else (some false)) = some r := H
       have A7 := Aside0.mk A70
       clear A70
       by_cases c8 : t1075 = true
       ·subst c8
        rw [if_pos rfl] at H
        have H' := Aside0.mk H
        clear H
        try go_wp2
        replace HB := Aside0.mk (below_drew1 HB.out)
        have p1073 : 0 ≤ (x5_1 : Int) := of_decide_eq_true as_
        have q1073 : x5_1 < (l0.length : Int) := of_decide_eq_true as_
        obtain ⟨ad1073, e1073, hx1073_0, hx1073_1, hx1073_2, hx1073_3⟩ := at_T32 HR0.out x5_1 p1073 q1073
        have hw1073_3 := hx1073_3
        have hw1073_2 := hx1073_2
        have hw1073_1 := hx1073_1
        have hw1073_0 := hx1073_0
        cases e1073
        replace hx1073_0 := (HB.out.cell (World.block_lt_of_cell? w _ hx1073_0)).trans hx1073_0
        replace hx1073_1 := (HB.out.cell (World.block_lt_of_cell? w _ hx1073_1)).trans hx1073_1
        replace hx1073_2 := (HB.out.cell (World.block_lt_of_cell? w _ hx1073_2)).trans hx1073_2
        replace hx1073_3 := (HB.out.cell (World.block_lt_of_cell? w _ hx1073_3)).trans hx1073_3
        replace p1073 := eq_true p1073
        replace q1073 := eq_true q1073
        have p1074 : 0 ≤ (x5_1 : Int) := of_decide_eq_true as_
        have q1074 : x5_1 < (l1.length : Int) := of_decide_eq_true as_
        obtain ⟨ad1074, e1074, hx1074_0, hx1074_1, hx1074_2, hx1074_3⟩ := at_T32 HR1.out x5_1 p1074 q1074
        have hw1074_3 := hx1074_3
        have hw1074_2 := hx1074_2
        have hw1074_1 := hx1074_1
        have hw1074_0 := hx1074_0
        cases e1074
        replace hx1074_0 := (HB.out.cell (World.block_lt_of_cell? w _ hx1074_0)).trans hx1074_0
        replace hx1074_1 := (HB.out.cell (World.block_lt_of_cell? w _ hx1074_1)).trans hx1074_1
        replace hx1074_2 := (HB.out.cell (World.block_lt_of_cell? w _ hx1074_2)).trans hx1074_2
        replace hx1074_3 := (HB.out.cell (World.block_lt_of_cell? w _ hx1074_3)).trans hx1074_3
        replace p1074 := eq_true p1074
        replace q1074 := eq_true q1074
        refine start_ (n := 10) (S := fun w' => w'.cell? (ad1073.add ((x5_1).toNat * 4)) = some (.int .i64 ((rd_T32 l0 x5_1).f0)) ∧ w'.cell? ⟨(ad1073.add ((x5_1).toNat * 4)).block, (ad1073.add ((x5_1).toNat * 4)).off + 1, none⟩ = some (.int .i64 ((rd_T32 l0 x5_1).f1)) ∧ w'.cell? ⟨(ad1073.add ((x5_1).toNat * 4)).block, (ad1073.add ((x5_1).toNat * 4)).off + 2, none⟩ = some (.int .i64 ((rd_T32 l0 x5_1).f2)) ∧ w'.cell? ⟨(ad1073.add ((x5_1).toNat * 4)).block, (ad1073.add ((x5_1).toNat * 4)).off + 3, none⟩ = some (.int .i64 ((rd_T32 l0 x5_1).f3)) ∧ w'.cell? (ad1074.add ((x5_1).toNat * 4)) = some (.int .i64 ((rd_T32 l1 x5_1).f0)) ∧ w'.cell? ⟨(ad1074.add ((x5_1).toNat * 4)).block, (ad1074.add ((x5_1).toNat * 4)).off + 1, none⟩ = some (.int .i64 ((rd_T32 l1 x5_1).f1)) ∧ w'.cell? ⟨(ad1074.add ((x5_1).toNat * 4)).block, (ad1074.add ((x5_1).toNat * 4)).off + 2, none⟩ = some (.int .i64 ((rd_T32 l1 x5_1).f2)) ∧ w'.cell? ⟨(ad1074.add ((x5_1).toNat * 4)).block, (ad1074.add ((x5_1).toNat * 4)).off + 3, none⟩ = some (.int .i64 ((rd_T32 l1 x5_1).f3))) (ds := []) #[false, false, false, false, false, false, false, false, false, false] (by kernel_rfl) rfl rfl ⟨((HB.out.cell (World.block_lt_of_cell? w _ hw1073_0)).trans hw1073_0), ((HB.out.cell (World.block_lt_of_cell? w _ hw1073_1)).trans hw1073_1), ((HB.out.cell (World.block_lt_of_cell? w _ hw1073_2)).trans hw1073_2), ((HB.out.cell (World.block_lt_of_cell? w _ hw1073_3)).trans hw1073_3), ((HB.out.cell (World.block_lt_of_cell? w _ hw1074_0)).trans hw1074_0), ((HB.out.cell (World.block_lt_of_cell? w _ hw1074_1)).trans hw1074_1), ((HB.out.cell (World.block_lt_of_cell? w _ hw1074_2)).trans hw1074_2), ((HB.out.cell (World.block_lt_of_cell? w _ hw1074_3)).trans hw1074_3)⟩ (fun hHeld => ?_); refine with_tabW laws_eqWindowS.tab6 laws_eqWindowS.bits6 (fun HT_ HW_ => ?_)
        generalize wr.drew = w9 at HB hx1073_0 hx1073_1 hx1073_2 hx1073_3 hx1074_0 hx1074_1 hx1074_2 hx1074_3 hHeld ⊢
        refine pure_ (i := 0) (N := some 17) (v := ?_) (a' := ?_) #[true, false, false, false, false, false, false, false, false, false] rfl rfl (any_of HT_.out (by kernel_rfl)) (fun _ _ _ h => h) (Or.inl ⟨by rfl, ?_⟩) ?_ ?_
        rotate_left
        ·intro w'
         go_simp
         with_reducible rfl
        rotate_left
        ·simp only [Act.put, List.setIfInBounds_toArray, List.set_cons_zero, List.set_cons_succ, i64_w, i32_w]
         rfl
        refine pure_ (i := 1) (N := some 18) (v := ?_) (a' := ?_) #[true, true, false, false, false, false, false, false, false, false] rfl rfl (any_of HT_.out (by kernel_rfl)) (fun _ _ _ h => h) (Or.inl ⟨by rfl, ?_⟩) ?_ ?_
        rotate_left
        ·intro w'
         go_simp
         with_reducible rfl
        rotate_left
        ·simp only [Act.put, List.setIfInBounds_toArray, List.set_cons_zero, List.set_cons_succ, i64_w, i32_w]
         rfl
        refine pure_ (i := 2) (N := some 19) (v := ?_) (a' := ?_) #[true, true, true, false, false, false, false, false, false, false] rfl rfl (any_of HT_.out (by kernel_rfl)) (fun _ _ _ h => h) (Or.inl ⟨by rfl, ?_⟩) ?_ ?_
        rotate_left
        ·intro w'
         go_simp
         with_reducible rfl
        rotate_left
        ·simp only [Act.put, List.setIfInBounds_toArray, List.set_cons_zero, List.set_cons_succ, i64_w, i32_w]
         rfl
        refine pure_ (i := 4) (N := some 21) (v := ?_) (a' := ?_) #[true, true, true, false, true, false, false, false, false, false] rfl rfl (any_of HT_.out (by kernel_rfl)) (fun _ _ _ h => h) (Or.inl ⟨by rfl, ?_⟩) ?_ ?_
        rotate_left
        ·intro w'
         go_simp
         with_reducible rfl
        rotate_left
        ·simp only [Act.put, List.setIfInBounds_toArray, List.set_cons_zero, List.set_cons_succ, i64_w, i32_w]
         rfl
        refine pure_ (i := 5) (N := some 22) (v := ?_) (a' := ?_) #[true, true, true, false, true, true, false, false, false, false] rfl rfl (any_of HT_.out (by kernel_rfl)) (fun _ _ _ h => h) (Or.inl ⟨by rfl, ?_⟩) ?_ ?_
        rotate_left
        ·intro w'
         go_simp
         with_reducible rfl
        rotate_left
        ·simp only [Act.put, List.setIfInBounds_toArray, List.set_cons_zero, List.set_cons_succ, i64_w, i32_w]
         rfl
        refine pure_ (i := 6) (N := some 23) (v := ?_) (a' := ?_) #[true, true, true, false, true, true, true, false, false, false] rfl rfl (any_of HT_.out (by kernel_rfl)) (fun _ _ _ h => h) (Or.inl ⟨by rfl, ?_⟩) ?_ ?_
        rotate_left
        ·intro w'
         go_simp
         with_reducible rfl
        rotate_left
        ·simp only [Act.put, List.setIfInBounds_toArray, List.set_cons_zero, List.set_cons_succ, i64_w, i32_w]
         rfl
        refine take_ (i := 3) (N := some 20) (v := ?_) (a' := ?_) #[true, true, true, true, true, true, true, false, false, false] rfl rfl (take_ofW HT_.out HW_.out (by kernel_rfl)) (fun _ _ _ h => h) (Or.inl ⟨by rfl, ?_⟩) hHeld ?_ ?_
        rotate_left
        ·rintro w' ⟨s0, s1, s2, s3, s4, s5, s6, s7⟩
         go_simp
         with_reducible rfl
        rotate_left
        ·simp only [Act.put, List.setIfInBounds_toArray, List.set_cons_zero, List.set_cons_succ, i64_w, i32_w]
         rfl
        refine take_ (i := 7) (N := some 24) (v := ?_) (a' := ?_) #[true, true, true, true, true, true, true, true, false, false] rfl rfl (take_ofW HT_.out HW_.out (by kernel_rfl)) (fun _ _ _ h => h) (Or.inl ⟨by rfl, ?_⟩) hHeld ?_ ?_
        rotate_left
        ·rintro w' ⟨s0, s1, s2, s3, s4, s5, s6, s7⟩
         go_simp
         with_reducible rfl
        rotate_left
        ·simp only [Act.put, List.setIfInBounds_toArray, List.set_cons_zero, List.set_cons_succ, i64_w, i32_w]
         rfl
        refine one_ (i := 8) (N := some 25) #[true, true, true, true, true, true, true, true, true, false] rfl rfl (one_of HT_.out (by kernel_rfl)) (by decide) (fun K hK => ?_)
        refine goes_ Try.func41 (by kernel_rfl) rfl #[.agg #[.int .i64 ((rd_T32 l0 x5_1).f0), .int .i64 ((rd_T32 l0 x5_1).f1), .int .i64 ((rd_T32 l0 x5_1).f2), .int .i64 ((rd_T32 l0 x5_1).f3)], .agg #[.int .i64 ((rd_T32 l1 x5_1).f0), .int .i64 ((rd_T32 l1 x5_1).f1), .int .i64 ((rd_T32 l1 x5_1).f2), .int .i64 ((rd_T32 l1 x5_1).f3)]] (by rfl) rfl rfl ar_ ?_
        with_reducible refine (laws_eqWindow.calls ((rd_T32 l0 x5_1).f0) ((rd_T32 l0 x5_1).f1) ((rd_T32 l0 x5_1).f2) ((rd_T32 l0 x5_1).f3) ((rd_T32 l1 x5_1).f0) ((rd_T32 l1 x5_1).f1) ((rd_T32 l1 x5_1).f2) ((rd_T32 l1 x5_1).f3) true _ A7.out).mono ?_
        rintro e w10 ⟨rfl, hb⟩
        refine ⟨_, rfl, ?_⟩
        replace HB := Aside0.mk (below_step (by repeat (first | (with_reducible first | exact HB.out | apply ba_ | apply bn_ | apply bd_) | exact HB.out)) hb)
        (try clear hb)
        (try clear hb2)
        (try clear hk)
        (try clear hi)
        refine hK.out _ _ ⟨((HB.out.cell (World.block_lt_of_cell? w _ hw1073_0)).trans hw1073_0), ((HB.out.cell (World.block_lt_of_cell? w _ hw1073_1)).trans hw1073_1), ((HB.out.cell (World.block_lt_of_cell? w _ hw1073_2)).trans hw1073_2), ((HB.out.cell (World.block_lt_of_cell? w _ hw1073_3)).trans hw1073_3), ((HB.out.cell (World.block_lt_of_cell? w _ hw1074_0)).trans hw1074_0), ((HB.out.cell (World.block_lt_of_cell? w _ hw1074_1)).trans hw1074_1), ((HB.out.cell (World.block_lt_of_cell? w _ hw1074_2)).trans hw1074_2), ((HB.out.cell (World.block_lt_of_cell? w _ hw1074_3)).trans hw1074_3)⟩ (fun hHeld => ?_)
        clear hK K
        refine norm_ (a' := ?_) ?_ ?_
        rotate_left
        ·show Act.put _ (some 25) _ = _
         simp only [Act.put, List.setIfInBounds_toArray, List.set_cons_zero, List.set_cons_succ, i64_w, i32_w]
         rfl
        refine pure_ (i := 9) (N := some 26) (v := ?_) (a' := ?_) #[true, true, true, true, true, true, true, true, true, true] rfl rfl (any_of HT_.out (by kernel_rfl)) (fun _ _ _ h => h) (Or.inl ⟨by rfl, ?_⟩) ?_ ?_
        rotate_left
        ·intro w'
         go_simp
         with_reducible rfl
        rotate_left
        ·simp only [Act.put, List.setIfInBounds_toArray, List.set_cons_zero, List.set_cons_succ, i64_w, i32_w]
         rfl
        refine done_ (done_of HT_.out (by kernel_rfl)) ?_
        try go_wp2
        go_roundg k1
        case measure => have := HK1.out; omega
        case rel => exact ⟨(wrap64 (x5_1 + 1)), (by first | rfl | (simp; done) | (simp [*]; done)), H', ⟨by have := HK1.out; omega⟩, ⟨by repeat (first | (with_reducible first | exact HB.out | apply below_alloc | apply pw_below_drewN | apply below_drew1) | exact HB.out)⟩⟩
       ·replace c8 := Bool.eq_false_iff.mpr c8
        subst c8
        rw [if_neg (show ¬ (false = true) by decide)] at H
        obtain rfl := Option.some.inj H
        try go_wp2
        replace HB := Aside0.mk (below_drew1 HB.out)
        have p1073 : 0 ≤ (x5_1 : Int) := of_decide_eq_true as_
        have q1073 : x5_1 < (l0.length : Int) := of_decide_eq_true as_
        obtain ⟨ad1073, e1073, hx1073_0, hx1073_1, hx1073_2, hx1073_3⟩ := at_T32 HR0.out x5_1 p1073 q1073
        have hw1073_3 := hx1073_3
        have hw1073_2 := hx1073_2
        have hw1073_1 := hx1073_1
        have hw1073_0 := hx1073_0
        cases e1073
        replace hx1073_0 := (HB.out.cell (World.block_lt_of_cell? w _ hx1073_0)).trans hx1073_0
        replace hx1073_1 := (HB.out.cell (World.block_lt_of_cell? w _ hx1073_1)).trans hx1073_1
        replace hx1073_2 := (HB.out.cell (World.block_lt_of_cell? w _ hx1073_2)).trans hx1073_2
        replace hx1073_3 := (HB.out.cell (World.block_lt_of_cell? w _ hx1073_3)).trans hx1073_3
        replace p1073 := eq_true p1073
        replace q1073 := eq_true q1073
        have p1074 : 0 ≤ (x5_1 : Int) := of_decide_eq_true as_
        have q1074 : x5_1 < (l1.length : Int) := of_decide_eq_true as_
        obtain ⟨ad1074, e1074, hx1074_0, hx1074_1, hx1074_2, hx1074_3⟩ := at_T32 HR1.out x5_1 p1074 q1074
        have hw1074_3 := hx1074_3
        have hw1074_2 := hx1074_2
        have hw1074_1 := hx1074_1
        have hw1074_0 := hx1074_0
        cases e1074
        replace hx1074_0 := (HB.out.cell (World.block_lt_of_cell? w _ hx1074_0)).trans hx1074_0
        replace hx1074_1 := (HB.out.cell (World.block_lt_of_cell? w _ hx1074_1)).trans hx1074_1
        replace hx1074_2 := (HB.out.cell (World.block_lt_of_cell? w _ hx1074_2)).trans hx1074_2
        replace hx1074_3 := (HB.out.cell (World.block_lt_of_cell? w _ hx1074_3)).trans hx1074_3
        replace p1074 := eq_true p1074
        replace q1074 := eq_true q1074
        refine start_ (n := 10) (S := fun w' => w'.cell? (ad1073.add ((x5_1).toNat * 4)) = some (.int .i64 ((rd_T32 l0 x5_1).f0)) ∧ w'.cell? ⟨(ad1073.add ((x5_1).toNat * 4)).block, (ad1073.add ((x5_1).toNat * 4)).off + 1, none⟩ = some (.int .i64 ((rd_T32 l0 x5_1).f1)) ∧ w'.cell? ⟨(ad1073.add ((x5_1).toNat * 4)).block, (ad1073.add ((x5_1).toNat * 4)).off + 2, none⟩ = some (.int .i64 ((rd_T32 l0 x5_1).f2)) ∧ w'.cell? ⟨(ad1073.add ((x5_1).toNat * 4)).block, (ad1073.add ((x5_1).toNat * 4)).off + 3, none⟩ = some (.int .i64 ((rd_T32 l0 x5_1).f3)) ∧ w'.cell? (ad1074.add ((x5_1).toNat * 4)) = some (.int .i64 ((rd_T32 l1 x5_1).f0)) ∧ w'.cell? ⟨(ad1074.add ((x5_1).toNat * 4)).block, (ad1074.add ((x5_1).toNat * 4)).off + 1, none⟩ = some (.int .i64 ((rd_T32 l1 x5_1).f1)) ∧ w'.cell? ⟨(ad1074.add ((x5_1).toNat * 4)).block, (ad1074.add ((x5_1).toNat * 4)).off + 2, none⟩ = some (.int .i64 ((rd_T32 l1 x5_1).f2)) ∧ w'.cell? ⟨(ad1074.add ((x5_1).toNat * 4)).block, (ad1074.add ((x5_1).toNat * 4)).off + 3, none⟩ = some (.int .i64 ((rd_T32 l1 x5_1).f3))) (ds := []) #[false, false, false, false, false, false, false, false, false, false] (by kernel_rfl) rfl rfl ⟨((HB.out.cell (World.block_lt_of_cell? w _ hw1073_0)).trans hw1073_0), ((HB.out.cell (World.block_lt_of_cell? w _ hw1073_1)).trans hw1073_1), ((HB.out.cell (World.block_lt_of_cell? w _ hw1073_2)).trans hw1073_2), ((HB.out.cell (World.block_lt_of_cell? w _ hw1073_3)).trans hw1073_3), ((HB.out.cell (World.block_lt_of_cell? w _ hw1074_0)).trans hw1074_0), ((HB.out.cell (World.block_lt_of_cell? w _ hw1074_1)).trans hw1074_1), ((HB.out.cell (World.block_lt_of_cell? w _ hw1074_2)).trans hw1074_2), ((HB.out.cell (World.block_lt_of_cell? w _ hw1074_3)).trans hw1074_3)⟩ (fun hHeld => ?_); refine with_tabW laws_eqWindowS.tab6 laws_eqWindowS.bits6 (fun HT_ HW_ => ?_)
        generalize wr.drew = w11 at HB hx1073_0 hx1073_1 hx1073_2 hx1073_3 hx1074_0 hx1074_1 hx1074_2 hx1074_3 hHeld ⊢
        refine pure_ (i := 0) (N := some 17) (v := ?_) (a' := ?_) #[true, false, false, false, false, false, false, false, false, false] rfl rfl (any_of HT_.out (by kernel_rfl)) (fun _ _ _ h => h) (Or.inl ⟨by rfl, ?_⟩) ?_ ?_
        rotate_left
        ·intro w'
         go_simp
         with_reducible rfl
        rotate_left
        ·simp only [Act.put, List.setIfInBounds_toArray, List.set_cons_zero, List.set_cons_succ, i64_w, i32_w]
         rfl
        refine pure_ (i := 1) (N := some 18) (v := ?_) (a' := ?_) #[true, true, false, false, false, false, false, false, false, false] rfl rfl (any_of HT_.out (by kernel_rfl)) (fun _ _ _ h => h) (Or.inl ⟨by rfl, ?_⟩) ?_ ?_
        rotate_left
        ·intro w'
         go_simp
         with_reducible rfl
        rotate_left
        ·simp only [Act.put, List.setIfInBounds_toArray, List.set_cons_zero, List.set_cons_succ, i64_w, i32_w]
         rfl
        refine pure_ (i := 2) (N := some 19) (v := ?_) (a' := ?_) #[true, true, true, false, false, false, false, false, false, false] rfl rfl (any_of HT_.out (by kernel_rfl)) (fun _ _ _ h => h) (Or.inl ⟨by rfl, ?_⟩) ?_ ?_
        rotate_left
        ·intro w'
         go_simp
         with_reducible rfl
        rotate_left
        ·simp only [Act.put, List.setIfInBounds_toArray, List.set_cons_zero, List.set_cons_succ, i64_w, i32_w]
         rfl
        refine pure_ (i := 4) (N := some 21) (v := ?_) (a' := ?_) #[true, true, true, false, true, false, false, false, false, false] rfl rfl (any_of HT_.out (by kernel_rfl)) (fun _ _ _ h => h) (Or.inl ⟨by rfl, ?_⟩) ?_ ?_
        rotate_left
        ·intro w'
         go_simp
         with_reducible rfl
        rotate_left
        ·simp only [Act.put, List.setIfInBounds_toArray, List.set_cons_zero, List.set_cons_succ, i64_w, i32_w]
         rfl
        refine pure_ (i := 5) (N := some 22) (v := ?_) (a' := ?_) #[true, true, true, false, true, true, false, false, false, false] rfl rfl (any_of HT_.out (by kernel_rfl)) (fun _ _ _ h => h) (Or.inl ⟨by rfl, ?_⟩) ?_ ?_
        rotate_left
        ·intro w'
         go_simp
         with_reducible rfl
        rotate_left
        ·simp only [Act.put, List.setIfInBounds_toArray, List.set_cons_zero, List.set_cons_succ, i64_w, i32_w]
         rfl
        refine pure_ (i := 6) (N := some 23) (v := ?_) (a' := ?_) #[true, true, true, false, true, true, true, false, false, false] rfl rfl (any_of HT_.out (by kernel_rfl)) (fun _ _ _ h => h) (Or.inl ⟨by rfl, ?_⟩) ?_ ?_
        rotate_left
        ·intro w'
         go_simp
         with_reducible rfl
        rotate_left
        ·simp only [Act.put, List.setIfInBounds_toArray, List.set_cons_zero, List.set_cons_succ, i64_w, i32_w]
         rfl
        refine take_ (i := 3) (N := some 20) (v := ?_) (a' := ?_) #[true, true, true, true, true, true, true, false, false, false] rfl rfl (take_ofW HT_.out HW_.out (by kernel_rfl)) (fun _ _ _ h => h) (Or.inl ⟨by rfl, ?_⟩) hHeld ?_ ?_
        rotate_left
        ·rintro w' ⟨s0, s1, s2, s3, s4, s5, s6, s7⟩
         go_simp
         with_reducible rfl
        rotate_left
        ·simp only [Act.put, List.setIfInBounds_toArray, List.set_cons_zero, List.set_cons_succ, i64_w, i32_w]
         rfl
        refine take_ (i := 7) (N := some 24) (v := ?_) (a' := ?_) #[true, true, true, true, true, true, true, true, false, false] rfl rfl (take_ofW HT_.out HW_.out (by kernel_rfl)) (fun _ _ _ h => h) (Or.inl ⟨by rfl, ?_⟩) hHeld ?_ ?_
        rotate_left
        ·rintro w' ⟨s0, s1, s2, s3, s4, s5, s6, s7⟩
         go_simp
         with_reducible rfl
        rotate_left
        ·simp only [Act.put, List.setIfInBounds_toArray, List.set_cons_zero, List.set_cons_succ, i64_w, i32_w]
         rfl
        refine one_ (i := 8) (N := some 25) #[true, true, true, true, true, true, true, true, true, false] rfl rfl (one_of HT_.out (by kernel_rfl)) (by decide) (fun K hK => ?_)
        refine goes_ Try.func41 (by kernel_rfl) rfl #[.agg #[.int .i64 ((rd_T32 l0 x5_1).f0), .int .i64 ((rd_T32 l0 x5_1).f1), .int .i64 ((rd_T32 l0 x5_1).f2), .int .i64 ((rd_T32 l0 x5_1).f3)], .agg #[.int .i64 ((rd_T32 l1 x5_1).f0), .int .i64 ((rd_T32 l1 x5_1).f1), .int .i64 ((rd_T32 l1 x5_1).f2), .int .i64 ((rd_T32 l1 x5_1).f3)]] (by rfl) rfl rfl ar_ ?_
        with_reducible refine (laws_eqWindow.calls ((rd_T32 l0 x5_1).f0) ((rd_T32 l0 x5_1).f1) ((rd_T32 l0 x5_1).f2) ((rd_T32 l0 x5_1).f3) ((rd_T32 l1 x5_1).f0) ((rd_T32 l1 x5_1).f1) ((rd_T32 l1 x5_1).f2) ((rd_T32 l1 x5_1).f3) false _ A7.out).mono ?_
        rintro e w12 ⟨rfl, hb⟩
        refine ⟨_, rfl, ?_⟩
        replace HB := Aside0.mk (below_step (by repeat (first | (with_reducible first | exact HB.out | apply ba_ | apply bn_ | apply bd_) | exact HB.out)) hb)
        (try clear hb)
        (try clear hb2)
        (try clear hk)
        (try clear hi)
        refine hK.out _ _ ⟨((HB.out.cell (World.block_lt_of_cell? w _ hw1073_0)).trans hw1073_0), ((HB.out.cell (World.block_lt_of_cell? w _ hw1073_1)).trans hw1073_1), ((HB.out.cell (World.block_lt_of_cell? w _ hw1073_2)).trans hw1073_2), ((HB.out.cell (World.block_lt_of_cell? w _ hw1073_3)).trans hw1073_3), ((HB.out.cell (World.block_lt_of_cell? w _ hw1074_0)).trans hw1074_0), ((HB.out.cell (World.block_lt_of_cell? w _ hw1074_1)).trans hw1074_1), ((HB.out.cell (World.block_lt_of_cell? w _ hw1074_2)).trans hw1074_2), ((HB.out.cell (World.block_lt_of_cell? w _ hw1074_3)).trans hw1074_3)⟩ (fun hHeld => ?_)
        clear hK K
        refine norm_ (a' := ?_) ?_ ?_
        rotate_left
        ·show Act.put _ (some 25) _ = _
         simp only [Act.put, List.setIfInBounds_toArray, List.set_cons_zero, List.set_cons_succ, i64_w, i32_w]
         rfl
        refine pure_ (i := 9) (N := some 26) (v := ?_) (a' := ?_) #[true, true, true, true, true, true, true, true, true, true] rfl rfl (any_of HT_.out (by kernel_rfl)) (fun _ _ _ h => h) (Or.inl ⟨by rfl, ?_⟩) ?_ ?_
        rotate_left
        ·intro w'
         go_simp
         with_reducible rfl
        rotate_left
        ·simp only [Act.put, List.setIfInBounds_toArray, List.set_cons_zero, List.set_cons_succ, i64_w, i32_w]
         rfl
        refine done_ (done_of HT_.out (by kernel_rfl)) ?_
        try go_wp2
        go_ret
        exact ⟨er_, by repeat (first | (with_reducible first | exact HB.out | apply below_alloc | apply pw_below_drewN | apply below_drew1) | exact HB.out)⟩
      ·rw [if_neg c6] at H
       exact absurd H (by simp)
     ·rw [if_neg c5] at H
      exact absurd H (by simp)
    ·rw [if_neg c4] at H
     have c4b0 : decide (x5_1 < (l0.length : Int)) = false := decide_eq_false c4
     clear c4
     obtain rfl := Option.some.inj H
     go_wp2
     go_ret
     exact ⟨er_, by repeat (first | (with_reducible first | exact HB.out | apply below_alloc | apply pw_below_drewN | apply below_drew1) | exact HB.out)⟩
 ·rw [if_neg c3] at H
  have c3b0 : ((l0.length : Int) == (l1.length : Int)) = false := beq_eq_false_iff_ne.mpr c3
  have c3b1 : ((l0.length : Int) != (l1.length : Int)) = true := bne_iff_ne.mpr c3
  have c3b2 : (l0.length == l1.length) = false := by first | simpa using c3 | (simp at c3 ⊢; omega)
  obtain rfl := Option.some.inj H
  go_enter Try.func50, Try.ntmps50
  go_wp2
  go_ret
  exact ⟨er_, by repeat (first | (with_reducible first | exact HB.out | apply below_alloc | apply pw_below_drewN | apply below_drew1) | exact HB.out)⟩
end Go.Proofs.Ytmkcbbbknbahgaa.P
namespace Go.Proofs.Ytmkcbbbknbahgaa.P
open Go.RowKit Go.Proofs.YtmkcbbbknbahgaaW.PrintWords Go.Proofs.YtmkcbbbknbahgaaW.PrintLast Go.Proofs.YtmkcbbbknbahgaaW.PrintMore
attribute [local go_sem] max2_int min2_int max_two min_two max_three min_three max_four min_four   -- for this text's walks alone
set_option linter.unusedVariables false
set_option linter.unusedSimpArgs false

def laws_eqAsked.f (a0_0 : Int) (a0_1 : Int) (a1_0 : Int) (a1_1 : Int) : Option (Bool) := if a0_0 = a1_0 then (if a0_1 = a1_1 then (some true) else (some false)) else (some false)

set_option maxHeartbeats 8000000 in
set_option maxRecDepth 100000 in
theorem laws_eqAsked.calls (a0_0 : Int) (a0_1 : Int) (a1_0 : Int) (a1_1 : Int) (r : Bool) (w : World) (h : laws_eqAsked.f a0_0 a0_1 a1_0 a1_1 = some r) :
  Calls Try.prog 112 #[.agg #[.int .i64 a0_0, .int .i64 a0_1], .agg #[.int .i64 a1_0, .int .i64 a1_1]] w fun e w' => e = .returned (.bool r) ∧ Below w.heap.size w w' := by
 have hu74 := Try.underlying74
 have HB := Aside0.mk (Below.refl w.heap.size w)
 have H : (if a0_0 = a1_0 then (if a0_1 = a1_1 then (some true) else (some false)) else (some false)) = some r := h
 clear h
 by_cases c3 : a0_0 = a1_0
 ·rw [if_pos c3] at H
  have c3b0 : (a0_0 == a1_0) = true := beq_iff_eq.mpr c3
  have c3b1 : (a0_0 != a1_0) = false := bne_eq_false_iff_eq.mpr c3
  clear c3
  by_cases c4 : a0_1 = a1_1
  ·rw [if_pos c4] at H
   have c4b0 : (a0_1 == a1_1) = true := beq_iff_eq.mpr c4
   have c4b1 : (a0_1 != a1_1) = false := bne_eq_false_iff_eq.mpr c4
   clear c4
   obtain rfl := Option.some.inj H
   go_enter Try.func112, Try.ntmps112
   go_wp2_with (first | ((with_reducible refine gate_dst (N := 2) rfl ?_); refine box_event ?hg (N := 2) ?hd (cs := #[.int .i64 a0_0, .int .i64 a0_1]) (t := 74) ?hr ?_; (case hd => rfl); (case hg => rfl); (case hr => exact gs_); intro gb1076 hg w5 hbox hb; have BK1076 := Aside0.mk (hbox); have GW1076 := gE_ HB hg; have GE1076 := gE_ HB hg; replace HB := Aside0.mk (below_step (by repeat (first | (with_reducible first | exact HB.out | apply ba_ | apply bn_ | apply bd_) | exact HB.out)) hb); clear hb hbox hg) | ((with_reducible refine gate_dst (N := 3) rfl ?_); refine box_event ?hg (N := 3) ?hd (cs := #[.int .i64 a1_0, .int .i64 a1_1]) (t := 74) ?hr ?_; (case hd => rfl); (case hg => rfl); (case hr => exact gs_); intro gb1077 hg w6 hbox hb; have BK1077 := Aside0.mk (hbox); have GW1077 := gE_ HB hg; have GE1077 := gE_ HB hg; replace HB := Aside0.mk (below_step (by repeat (first | (with_reducible first | exact HB.out | apply ba_ | apply bn_ | apply bd_ | refine bset_ ?_ (by assumption)) | exact HB.out)) hb); have NB1076_1077 := nB_ BK1076 hg; have NB1077_1076 := nA_ BK1076 hg; replace BK1076 := bB_ BK1076 hb; clear hb hbox hg; have hnb7 := NB1076_1077.out; have hnc7 := NB1077_1076.out; obtain ⟨hcz8_0, hcz8_1, hfz8_0, hfz8_1⟩ := zc2_ BK1076; obtain ⟨hcz9_0, hcz9_1, hfz9_0, hfz9_1⟩ := zc2_ BK1077))
   go_ret
   exact ⟨er_, by repeat (first | (with_reducible first | exact HB.out | apply below_alloc | apply pw_below_drewN | apply below_drew1 | refine below_set ?_ GE1076.out | refine below_set ?_ GE1077.out) | exact HB.out)⟩
  ·rw [if_neg c4] at H
   have c4b0 : (a0_1 == a1_1) = false := beq_eq_false_iff_ne.mpr c4
   have c4b1 : (a0_1 != a1_1) = true := bne_iff_ne.mpr c4
   obtain rfl := Option.some.inj H
   go_enter Try.func112, Try.ntmps112
   go_wp2_with (first | ((with_reducible refine gate_dst (N := 2) rfl ?_); refine box_event ?hg (N := 2) ?hd (cs := #[.int .i64 a0_0, .int .i64 a0_1]) (t := 74) ?hr ?_; (case hd => rfl); (case hg => rfl); (case hr => exact gs_); intro gb1076 hg w10 hbox hb; have BK1076 := Aside0.mk (hbox); have GW1076 := gE_ HB hg; have GE1076 := gE_ HB hg; replace HB := Aside0.mk (below_step (by repeat (first | (with_reducible first | exact HB.out | apply ba_ | apply bn_ | apply bd_) | exact HB.out)) hb); clear hb hbox hg) | ((with_reducible refine gate_dst (N := 3) rfl ?_); refine box_event ?hg (N := 3) ?hd (cs := #[.int .i64 a1_0, .int .i64 a1_1]) (t := 74) ?hr ?_; (case hd => rfl); (case hg => rfl); (case hr => exact gs_); intro gb1077 hg w11 hbox hb; have BK1077 := Aside0.mk (hbox); have GW1077 := gE_ HB hg; have GE1077 := gE_ HB hg; replace HB := Aside0.mk (below_step (by repeat (first | (with_reducible first | exact HB.out | apply ba_ | apply bn_ | apply bd_ | refine bset_ ?_ (by assumption)) | exact HB.out)) hb); have NB1076_1077 := nB_ BK1076 hg; have NB1077_1076 := nA_ BK1076 hg; replace BK1076 := bB_ BK1076 hb; clear hb hbox hg; have hnb12 := NB1076_1077.out; have hnc12 := NB1077_1076.out; obtain ⟨hcz13_0, hcz13_1, hfz13_0, hfz13_1⟩ := zc2_ BK1076; obtain ⟨hcz14_0, hcz14_1, hfz14_0, hfz14_1⟩ := zc2_ BK1077))
   go_ret
   exact ⟨er_, by repeat (first | (with_reducible first | exact HB.out | apply below_alloc | apply pw_below_drewN | apply below_drew1 | refine below_set ?_ GE1076.out | refine below_set ?_ GE1077.out) | exact HB.out)⟩
 ·rw [if_neg c3] at H
  have c3b0 : (a0_0 == a1_0) = false := beq_eq_false_iff_ne.mpr c3
  have c3b1 : (a0_0 != a1_0) = true := bne_iff_ne.mpr c3
  obtain rfl := Option.some.inj H
  go_enter Try.func112, Try.ntmps112
  go_wp2_with (first | ((with_reducible refine gate_dst (N := 2) rfl ?_); refine box_event ?hg (N := 2) ?hd (cs := #[.int .i64 a0_0, .int .i64 a0_1]) (t := 74) ?hr ?_; (case hd => rfl); (case hg => rfl); (case hr => exact gs_); intro gb1076 hg w15 hbox hb; have BK1076 := Aside0.mk (hbox); have GW1076 := gE_ HB hg; have GE1076 := gE_ HB hg; replace HB := Aside0.mk (below_step (by repeat (first | (with_reducible first | exact HB.out | apply ba_ | apply bn_ | apply bd_) | exact HB.out)) hb); clear hb hbox hg) | ((with_reducible refine gate_dst (N := 3) rfl ?_); refine box_event ?hg (N := 3) ?hd (cs := #[.int .i64 a1_0, .int .i64 a1_1]) (t := 74) ?hr ?_; (case hd => rfl); (case hg => rfl); (case hr => exact gs_); intro gb1077 hg w16 hbox hb; have BK1077 := Aside0.mk (hbox); have GW1077 := gE_ HB hg; have GE1077 := gE_ HB hg; replace HB := Aside0.mk (below_step (by repeat (first | (with_reducible first | exact HB.out | apply ba_ | apply bn_ | apply bd_ | refine bset_ ?_ (by assumption)) | exact HB.out)) hb); have NB1076_1077 := nB_ BK1076 hg; have NB1077_1076 := nA_ BK1076 hg; replace BK1076 := bB_ BK1076 hb; clear hb hbox hg; have hnb17 := NB1076_1077.out; have hnc17 := NB1077_1076.out; obtain ⟨hcz18_0, hcz18_1, hfz18_0, hfz18_1⟩ := zc2_ BK1076; obtain ⟨hcz19_0, hcz19_1, hfz19_0, hfz19_1⟩ := zc2_ BK1077))
  go_ret
  exact ⟨er_, by repeat (first | (with_reducible first | exact HB.out | apply below_alloc | apply pw_below_drewN | apply below_drew1 | refine below_set ?_ GE1076.out | refine below_set ?_ GE1077.out) | exact HB.out)⟩
end Go.Proofs.Ytmkcbbbknbahgaa.P
namespace Go.Proofs.Ytmkcbbbknbahgaa.P
open Go.RowKit Go.Proofs.YtmkcbbbknbahgaaW.PrintWords Go.Proofs.YtmkcbbbknbahgaaW.PrintLast Go.Proofs.YtmkcbbbknbahgaaW.PrintMore
attribute [local go_sem] max2_int min2_int max_two min_two max_three min_three max_four min_four   -- for this text's walks alone
set_option linter.unusedVariables false
set_option linter.unusedSimpArgs false

def laws_eqAskedS.l0 : Nat → List (S74) → List (S74) → Int → Option (Bool)
 | 0, _, _, _ => none
 | k + 1, x0, x1, x5 => if x5 < (x0.length : Int) then (if 0 ≤ x5 then (if x5 < (x1.length : Int) then ((laws_eqAsked.f ((rd_T74 x0 x5).f0) ((rd_T74 x0 x5).f1) ((rd_T74 x1 x5).f0) ((rd_T74 x1 x5).f1)).bind fun t1080 => (if t1080 = true then (laws_eqAskedS.l0 k x0 x1 (wrap64 (x5 + 1))) else (some false))) else (none)) else (none)) else (some true)

def laws_eqAskedS.f (k : Nat) (l0 : List (S74)) (l1 : List (S74)) : Option (Bool) := if (l0.length : Int) = (l1.length : Int) then (laws_eqAskedS.l0 k l0 l1 0) else (some false)

def laws_eqAskedS.T6 : Bool × List (List Nat × List Nat) := (true, [([], []), ([], []), ([0, 1], [0, 1]), ([2], [2]), ([], []), ([], []), ([4, 5], [4, 5]), ([6], [6]), ([3, 7], [3, 7]), ([8], [8])])

def laws_eqAskedS.B6 : List Nat := [0, 0, 3, 7, 0, 0, 48, 112, 255, 511]

theorem laws_eqAskedS.tab6 : rtab .any (opsOf Try.f51 6) = laws_eqAskedS.T6 := by kernel_rfl

theorem laws_eqAskedS.bits6 : waitsOk laws_eqAskedS.T6.2 laws_eqAskedS.B6 = true := by kernel_rfl

set_option maxHeartbeats 8000000 in
set_option maxRecDepth 100000 in
theorem laws_eqAskedS.calls (k : Nat) (A0 : Option Addr) (c0 : Nat) (l0 : List (S74)) (A1 : Option Addr) (c1 : Nat) (l1 : List (S74)) (r : Bool) (w : World) (hr0 : Kd.C k74 w A0 l0.length l0) (hc0 : l0.length ≤ c0) (hr1 : Kd.C k74 w A1 l1.length l1) (hc1 : l1.length ≤ c1) (h : laws_eqAskedS.f k l0 l1 = some r) :
  Calls Try.prog 51 #[.slice A0 l0.length c0, .slice A1 l1.length c1] w fun e w' => e = .returned (.bool r) ∧ Below w.heap.size w w' := by
 have hu74 := Try.underlying74
 have HR0 := Aside0.mk hr0
 have HC0 := Aside0.mk hc0
 clear hr0 hc0
 have HR1 := Aside0.mk hr1
 have HC1 := Aside0.mk hc1
 clear hr1 hc1
 have HB := Aside0.mk (Below.refl w.heap.size w)
 have H : (if (l0.length : Int) = (l1.length : Int) then (laws_eqAskedS.l0 k l0 l1 0) else (some false)) = some r := h
 clear h
 by_cases c3 : (l0.length : Int) = (l1.length : Int)
 ·rw [if_pos c3] at H
  have c3b0 : ((l0.length : Int) == (l1.length : Int)) = true := beq_iff_eq.mpr c3
  have c3b1 : ((l0.length : Int) != (l1.length : Int)) = false := bne_eq_false_iff_eq.mpr c3
  have c3b2 : (l0.length == l1.length) = true := by first | simpa using c3 | (simp at c3 ⊢; omega)
  clear c3
  have H' := Aside0.mk H
  clear H
  go_enter Try.func51, Try.ntmps51
  go_wp2
  go_loopg [5] k (fun kq v5 w' => ∃ (x5_1 : Int), v5 = .int .i64 x5_1 ∧ Aside0 (laws_eqAskedS.l0 kq l0 l1 x5_1 = some r) ∧ Aside0 (kq ≤ k) ∧ Aside0 (Below w.heap.size w w'))
  case atStart => exact ⟨(0), (by first | rfl | (simp; done) | (simp [*]; done)), H', ⟨Nat.le_refl _⟩, ⟨by repeat (first | (with_reducible first | exact HB.out | apply below_alloc | apply pw_below_drewN | apply below_drew1) | exact HB.out)⟩⟩
  case round =>
   clear H'
   try clear c1
   try clear p2
   try clear c3
   try clear c3b0
   try clear c3b1
   try clear c3b2
   obtain ⟨x5_1, rfl, HA, HK1, HB⟩ := hrel
   cases gk with
   | zero => exact absurd HA.out (by simp [laws_eqAskedS.l0])
   | succ k1 =>
    have H := HA.out
    clear HA
    simp only [laws_eqAskedS.l0] at H
    by_cases c4 : x5_1 < (l0.length : Int)
    ·rw [if_pos c4] at H
     have c4b0 : decide (x5_1 < (l0.length : Int)) = true := decide_eq_true c4
     clear c4
     by_cases c5 : 0 ≤ x5_1
     ·rw [if_pos c5] at H
      have c5b0 : decide (0 ≤ x5_1) = true := decide_eq_true c5
      clear c5
      by_cases c6 : x5_1 < (l1.length : Int)
      ·rw [if_pos c6] at H
       have c6b0 : decide (x5_1 < (l1.length : Int)) = true := decide_eq_true c6
       clear c6
       replace H := Option.bind_eq_some_iff.mp H
       obtain ⟨t1080, A70, H⟩ := H
       replace H : (if t1080 = true then (laws_eqAskedS.l0 k1 l0 l1 (wrap64 (x5_1 + 1))) else (some false)) = some r := H
       have A7 := Aside0.mk A70
       clear A70
       by_cases c8 : t1080 = true
       ·subst c8
        rw [if_pos rfl] at H
        have H' := Aside0.mk H
        clear H
        try go_wp2
        replace HB := Aside0.mk (below_drew1 HB.out)
        have p1078 : 0 ≤ (x5_1 : Int) := of_decide_eq_true as_
        have q1078 : x5_1 < (l0.length : Int) := of_decide_eq_true as_
        obtain ⟨ad1078, e1078, hx1078_0, hx1078_1⟩ := at_T74 HR0.out x5_1 p1078 q1078
        have hw1078_1 := hx1078_1
        have hw1078_0 := hx1078_0
        cases e1078
        replace hx1078_0 := (HB.out.cell (World.block_lt_of_cell? w _ hx1078_0)).trans hx1078_0
        replace hx1078_1 := (HB.out.cell (World.block_lt_of_cell? w _ hx1078_1)).trans hx1078_1
        replace p1078 := eq_true p1078
        replace q1078 := eq_true q1078
        have p1079 : 0 ≤ (x5_1 : Int) := of_decide_eq_true as_
        have q1079 : x5_1 < (l1.length : Int) := of_decide_eq_true as_
        obtain ⟨ad1079, e1079, hx1079_0, hx1079_1⟩ := at_T74 HR1.out x5_1 p1079 q1079
        have hw1079_1 := hx1079_1
        have hw1079_0 := hx1079_0
        cases e1079
        replace hx1079_0 := (HB.out.cell (World.block_lt_of_cell? w _ hx1079_0)).trans hx1079_0
        replace hx1079_1 := (HB.out.cell (World.block_lt_of_cell? w _ hx1079_1)).trans hx1079_1
        replace p1079 := eq_true p1079
        replace q1079 := eq_true q1079
        refine start_ (n := 10) (S := fun w' => w'.cell? (ad1078.add ((x5_1).toNat * 2)) = some (.int .i64 ((rd_T74 l0 x5_1).f0)) ∧ w'.cell? ⟨(ad1078.add ((x5_1).toNat * 2)).block, (ad1078.add ((x5_1).toNat * 2)).off + 1, none⟩ = some (.int .i64 ((rd_T74 l0 x5_1).f1)) ∧ w'.cell? (ad1079.add ((x5_1).toNat * 2)) = some (.int .i64 ((rd_T74 l1 x5_1).f0)) ∧ w'.cell? ⟨(ad1079.add ((x5_1).toNat * 2)).block, (ad1079.add ((x5_1).toNat * 2)).off + 1, none⟩ = some (.int .i64 ((rd_T74 l1 x5_1).f1))) (ds := []) #[false, false, false, false, false, false, false, false, false, false] (by kernel_rfl) rfl rfl ⟨((HB.out.cell (World.block_lt_of_cell? w _ hw1078_0)).trans hw1078_0), ((HB.out.cell (World.block_lt_of_cell? w _ hw1078_1)).trans hw1078_1), ((HB.out.cell (World.block_lt_of_cell? w _ hw1079_0)).trans hw1079_0), ((HB.out.cell (World.block_lt_of_cell? w _ hw1079_1)).trans hw1079_1)⟩ (fun hHeld => ?_); refine with_tabW laws_eqAskedS.tab6 laws_eqAskedS.bits6 (fun HT_ HW_ => ?_)
        generalize wr.drew = w9 at HB hx1078_0 hx1078_1 hx1079_0 hx1079_1 hHeld ⊢
        refine pure_ (i := 0) (N := some 17) (v := ?_) (a' := ?_) #[true, false, false, false, false, false, false, false, false, false] rfl rfl (any_of HT_.out (by kernel_rfl)) (fun _ _ _ h => h) (Or.inl ⟨by rfl, ?_⟩) ?_ ?_
        rotate_left
        ·intro w'
         go_simp
         with_reducible rfl
        rotate_left
        ·simp only [Act.put, List.setIfInBounds_toArray, List.set_cons_zero, List.set_cons_succ, i64_w, i32_w]
         rfl
        refine pure_ (i := 1) (N := some 18) (v := ?_) (a' := ?_) #[true, true, false, false, false, false, false, false, false, false] rfl rfl (any_of HT_.out (by kernel_rfl)) (fun _ _ _ h => h) (Or.inl ⟨by rfl, ?_⟩) ?_ ?_
        rotate_left
        ·intro w'
         go_simp
         with_reducible rfl
        rotate_left
        ·simp only [Act.put, List.setIfInBounds_toArray, List.set_cons_zero, List.set_cons_succ, i64_w, i32_w]
         rfl
        refine pure_ (i := 2) (N := some 19) (v := ?_) (a' := ?_) #[true, true, true, false, false, false, false, false, false, false] rfl rfl (any_of HT_.out (by kernel_rfl)) (fun _ _ _ h => h) (Or.inl ⟨by rfl, ?_⟩) ?_ ?_
        rotate_left
        ·intro w'
         go_simp
         with_reducible rfl
        rotate_left
        ·simp only [Act.put, List.setIfInBounds_toArray, List.set_cons_zero, List.set_cons_succ, i64_w, i32_w]
         rfl
        refine pure_ (i := 4) (N := some 21) (v := ?_) (a' := ?_) #[true, true, true, false, true, false, false, false, false, false] rfl rfl (any_of HT_.out (by kernel_rfl)) (fun _ _ _ h => h) (Or.inl ⟨by rfl, ?_⟩) ?_ ?_
        rotate_left
        ·intro w'
         go_simp
         with_reducible rfl
        rotate_left
        ·simp only [Act.put, List.setIfInBounds_toArray, List.set_cons_zero, List.set_cons_succ, i64_w, i32_w]
         rfl
        refine pure_ (i := 5) (N := some 22) (v := ?_) (a' := ?_) #[true, true, true, false, true, true, false, false, false, false] rfl rfl (any_of HT_.out (by kernel_rfl)) (fun _ _ _ h => h) (Or.inl ⟨by rfl, ?_⟩) ?_ ?_
        rotate_left
        ·intro w'
         go_simp
         with_reducible rfl
        rotate_left
        ·simp only [Act.put, List.setIfInBounds_toArray, List.set_cons_zero, List.set_cons_succ, i64_w, i32_w]
         rfl
        refine pure_ (i := 6) (N := some 23) (v := ?_) (a' := ?_) #[true, true, true, false, true, true, true, false, false, false] rfl rfl (any_of HT_.out (by kernel_rfl)) (fun _ _ _ h => h) (Or.inl ⟨by rfl, ?_⟩) ?_ ?_
        rotate_left
        ·intro w'
         go_simp
         with_reducible rfl
        rotate_left
        ·simp only [Act.put, List.setIfInBounds_toArray, List.set_cons_zero, List.set_cons_succ, i64_w, i32_w]
         rfl
        refine take_ (i := 3) (N := some 20) (v := ?_) (a' := ?_) #[true, true, true, true, true, true, true, false, false, false] rfl rfl (take_ofW HT_.out HW_.out (by kernel_rfl)) (fun _ _ _ h => h) (Or.inl ⟨by rfl, ?_⟩) hHeld ?_ ?_
        rotate_left
        ·rintro w' ⟨s0, s1, s2, s3⟩
         go_simp
         with_reducible rfl
        rotate_left
        ·simp only [Act.put, List.setIfInBounds_toArray, List.set_cons_zero, List.set_cons_succ, i64_w, i32_w]
         rfl
        refine take_ (i := 7) (N := some 24) (v := ?_) (a' := ?_) #[true, true, true, true, true, true, true, true, false, false] rfl rfl (take_ofW HT_.out HW_.out (by kernel_rfl)) (fun _ _ _ h => h) (Or.inl ⟨by rfl, ?_⟩) hHeld ?_ ?_
        rotate_left
        ·rintro w' ⟨s0, s1, s2, s3⟩
         go_simp
         with_reducible rfl
        rotate_left
        ·simp only [Act.put, List.setIfInBounds_toArray, List.set_cons_zero, List.set_cons_succ, i64_w, i32_w]
         rfl
        refine one_ (i := 8) (N := some 25) #[true, true, true, true, true, true, true, true, true, false] rfl rfl (one_of HT_.out (by kernel_rfl)) (by decide) (fun K hK => ?_)
        refine goes_ Try.func112 (by kernel_rfl) rfl #[.agg #[.int .i64 ((rd_T74 l0 x5_1).f0), .int .i64 ((rd_T74 l0 x5_1).f1)], .agg #[.int .i64 ((rd_T74 l1 x5_1).f0), .int .i64 ((rd_T74 l1 x5_1).f1)]] (by rfl) rfl rfl ar_ ?_
        with_reducible refine (laws_eqAsked.calls ((rd_T74 l0 x5_1).f0) ((rd_T74 l0 x5_1).f1) ((rd_T74 l1 x5_1).f0) ((rd_T74 l1 x5_1).f1) true _ A7.out).mono ?_
        rintro e w10 ⟨rfl, hb⟩
        refine ⟨_, rfl, ?_⟩
        replace HB := Aside0.mk (below_step (by repeat (first | (with_reducible first | exact HB.out | apply ba_ | apply bn_ | apply bd_) | exact HB.out)) hb)
        (try clear hb)
        (try clear hb2)
        (try clear hk)
        (try clear hi)
        refine hK.out _ _ ⟨((HB.out.cell (World.block_lt_of_cell? w _ hw1078_0)).trans hw1078_0), ((HB.out.cell (World.block_lt_of_cell? w _ hw1078_1)).trans hw1078_1), ((HB.out.cell (World.block_lt_of_cell? w _ hw1079_0)).trans hw1079_0), ((HB.out.cell (World.block_lt_of_cell? w _ hw1079_1)).trans hw1079_1)⟩ (fun hHeld => ?_)
        clear hK K
        refine norm_ (a' := ?_) ?_ ?_
        rotate_left
        ·show Act.put _ (some 25) _ = _
         simp only [Act.put, List.setIfInBounds_toArray, List.set_cons_zero, List.set_cons_succ, i64_w, i32_w]
         rfl
        refine pure_ (i := 9) (N := some 26) (v := ?_) (a' := ?_) #[true, true, true, true, true, true, true, true, true, true] rfl rfl (any_of HT_.out (by kernel_rfl)) (fun _ _ _ h => h) (Or.inl ⟨by rfl, ?_⟩) ?_ ?_
        rotate_left
        ·intro w'
         go_simp
         with_reducible rfl
        rotate_left
        ·simp only [Act.put, List.setIfInBounds_toArray, List.set_cons_zero, List.set_cons_succ, i64_w, i32_w]
         rfl
        refine done_ (done_of HT_.out (by kernel_rfl)) ?_
        try go_wp2
        go_roundg k1
        case measure => have := HK1.out; omega
        case rel => exact ⟨(wrap64 (x5_1 + 1)), (by first | rfl | (simp; done) | (simp [*]; done)), H', ⟨by have := HK1.out; omega⟩, ⟨by repeat (first | (with_reducible first | exact HB.out | apply below_alloc | apply pw_below_drewN | apply below_drew1) | exact HB.out)⟩⟩
       ·replace c8 := Bool.eq_false_iff.mpr c8
        subst c8
        rw [if_neg (show ¬ (false = true) by decide)] at H
        obtain rfl := Option.some.inj H
        try go_wp2
        replace HB := Aside0.mk (below_drew1 HB.out)
        have p1078 : 0 ≤ (x5_1 : Int) := of_decide_eq_true as_
        have q1078 : x5_1 < (l0.length : Int) := of_decide_eq_true as_
        obtain ⟨ad1078, e1078, hx1078_0, hx1078_1⟩ := at_T74 HR0.out x5_1 p1078 q1078
        have hw1078_1 := hx1078_1
        have hw1078_0 := hx1078_0
        cases e1078
        replace hx1078_0 := (HB.out.cell (World.block_lt_of_cell? w _ hx1078_0)).trans hx1078_0
        replace hx1078_1 := (HB.out.cell (World.block_lt_of_cell? w _ hx1078_1)).trans hx1078_1
        replace p1078 := eq_true p1078
        replace q1078 := eq_true q1078
        have p1079 : 0 ≤ (x5_1 : Int) := of_decide_eq_true as_
        have q1079 : x5_1 < (l1.length : Int) := of_decide_eq_true as_
        obtain ⟨ad1079, e1079, hx1079_0, hx1079_1⟩ := at_T74 HR1.out x5_1 p1079 q1079
        have hw1079_1 := hx1079_1
        have hw1079_0 := hx1079_0
        cases e1079
        replace hx1079_0 := (HB.out.cell (World.block_lt_of_cell? w _ hx1079_0)).trans hx1079_0
        replace hx1079_1 := (HB.out.cell (World.block_lt_of_cell? w _ hx1079_1)).trans hx1079_1
        replace p1079 := eq_true p1079
        replace q1079 := eq_true q1079
        refine start_ (n := 10) (S := fun w' => w'.cell? (ad1078.add ((x5_1).toNat * 2)) = some (.int .i64 ((rd_T74 l0 x5_1).f0)) ∧ w'.cell? ⟨(ad1078.add ((x5_1).toNat * 2)).block, (ad1078.add ((x5_1).toNat * 2)).off + 1, none⟩ = some (.int .i64 ((rd_T74 l0 x5_1).f1)) ∧ w'.cell? (ad1079.add ((x5_1).toNat * 2)) = some (.int .i64 ((rd_T74 l1 x5_1).f0)) ∧ w'.cell? ⟨(ad1079.add ((x5_1).toNat * 2)).block, (ad1079.add ((x5_1).toNat * 2)).off + 1, none⟩ = some (.int .i64 ((rd_T74 l1 x5_1).f1))) (ds := []) #[false, false, false, false, false, false, false, false, false, false] (by kernel_rfl) rfl rfl ⟨((HB.out.cell (World.block_lt_of_cell? w _ hw1078_0)).trans hw1078_0), ((HB.out.cell (World.block_lt_of_cell? w _ hw1078_1)).trans hw1078_1), ((HB.out.cell (World.block_lt_of_cell? w _ hw1079_0)).trans hw1079_0), ((HB.out.cell (World.block_lt_of_cell? w _ hw1079_1)).trans hw1079_1)⟩ (fun hHeld => ?_); refine with_tabW laws_eqAskedS.tab6 laws_eqAskedS.bits6 (fun HT_ HW_ => ?_)
        generalize wr.drew = w11 at HB hx1078_0 hx1078_1 hx1079_0 hx1079_1 hHeld ⊢
        refine pure_ (i := 0) (N := some 17) (v := ?_) (a' := ?_) #[true, false, false, false, false, false, false, false, false, false] rfl rfl (any_of HT_.out (by kernel_rfl)) (fun _ _ _ h => h) (Or.inl ⟨by rfl, ?_⟩) ?_ ?_
        rotate_left
        ·intro w'
         go_simp
         with_reducible rfl
        rotate_left
        ·simp only [Act.put, List.setIfInBounds_toArray, List.set_cons_zero, List.set_cons_succ, i64_w, i32_w]
         rfl
        refine pure_ (i := 1) (N := some 18) (v := ?_) (a' := ?_) #[true, true, false, false, false, false, false, false, false, false] rfl rfl (any_of HT_.out (by kernel_rfl)) (fun _ _ _ h => h) (Or.inl ⟨by rfl, ?_⟩) ?_ ?_
        rotate_left
        ·intro w'
         go_simp
         with_reducible rfl
        rotate_left
        ·simp only [Act.put, List.setIfInBounds_toArray, List.set_cons_zero, List.set_cons_succ, i64_w, i32_w]
         rfl
        refine pure_ (i := 2) (N := some 19) (v := ?_) (a' := ?_) #[true, true, true, false, false, false, false, false, false, false] rfl rfl (any_of HT_.out (by kernel_rfl)) (fun _ _ _ h => h) (Or.inl ⟨by rfl, ?_⟩) ?_ ?_
        rotate_left
        ·intro w'
         go_simp
         with_reducible rfl
        rotate_left
        ·simp only [Act.put, List.setIfInBounds_toArray, List.set_cons_zero, List.set_cons_succ, i64_w, i32_w]
         rfl
        refine pure_ (i := 4) (N := some 21) (v := ?_) (a' := ?_) #[true, true, true, false, true, false, false, false, false, false] rfl rfl (any_of HT_.out (by kernel_rfl)) (fun _ _ _ h => h) (Or.inl ⟨by rfl, ?_⟩) ?_ ?_
        rotate_left
        ·intro w'
         go_simp
         with_reducible rfl
        rotate_left
        ·simp only [Act.put, List.setIfInBounds_toArray, List.set_cons_zero, List.set_cons_succ, i64_w, i32_w]
         rfl
        refine pure_ (i := 5) (N := some 22) (v := ?_) (a' := ?_) #[true, true, true, false, true, true, false, false, false, false] rfl rfl (any_of HT_.out (by kernel_rfl)) (fun _ _ _ h => h) (Or.inl ⟨by rfl, ?_⟩) ?_ ?_
        rotate_left
        ·intro w'
         go_simp
         with_reducible rfl
        rotate_left
        ·simp only [Act.put, List.setIfInBounds_toArray, List.set_cons_zero, List.set_cons_succ, i64_w, i32_w]
         rfl
        refine pure_ (i := 6) (N := some 23) (v := ?_) (a' := ?_) #[true, true, true, false, true, true, true, false, false, false] rfl rfl (any_of HT_.out (by kernel_rfl)) (fun _ _ _ h => h) (Or.inl ⟨by rfl, ?_⟩) ?_ ?_
        rotate_left
        ·intro w'
         go_simp
         with_reducible rfl
        rotate_left
        ·simp only [Act.put, List.setIfInBounds_toArray, List.set_cons_zero, List.set_cons_succ, i64_w, i32_w]
         rfl
        refine take_ (i := 3) (N := some 20) (v := ?_) (a' := ?_) #[true, true, true, true, true, true, true, false, false, false] rfl rfl (take_ofW HT_.out HW_.out (by kernel_rfl)) (fun _ _ _ h => h) (Or.inl ⟨by rfl, ?_⟩) hHeld ?_ ?_
        rotate_left
        ·rintro w' ⟨s0, s1, s2, s3⟩
         go_simp
         with_reducible rfl
        rotate_left
        ·simp only [Act.put, List.setIfInBounds_toArray, List.set_cons_zero, List.set_cons_succ, i64_w, i32_w]
         rfl
        refine take_ (i := 7) (N := some 24) (v := ?_) (a' := ?_) #[true, true, true, true, true, true, true, true, false, false] rfl rfl (take_ofW HT_.out HW_.out (by kernel_rfl)) (fun _ _ _ h => h) (Or.inl ⟨by rfl, ?_⟩) hHeld ?_ ?_
        rotate_left
        ·rintro w' ⟨s0, s1, s2, s3⟩
         go_simp
         with_reducible rfl
        rotate_left
        ·simp only [Act.put, List.setIfInBounds_toArray, List.set_cons_zero, List.set_cons_succ, i64_w, i32_w]
         rfl
        refine one_ (i := 8) (N := some 25) #[true, true, true, true, true, true, true, true, true, false] rfl rfl (one_of HT_.out (by kernel_rfl)) (by decide) (fun K hK => ?_)
        refine goes_ Try.func112 (by kernel_rfl) rfl #[.agg #[.int .i64 ((rd_T74 l0 x5_1).f0), .int .i64 ((rd_T74 l0 x5_1).f1)], .agg #[.int .i64 ((rd_T74 l1 x5_1).f0), .int .i64 ((rd_T74 l1 x5_1).f1)]] (by rfl) rfl rfl ar_ ?_
        with_reducible refine (laws_eqAsked.calls ((rd_T74 l0 x5_1).f0) ((rd_T74 l0 x5_1).f1) ((rd_T74 l1 x5_1).f0) ((rd_T74 l1 x5_1).f1) false _ A7.out).mono ?_
        rintro e w12 ⟨rfl, hb⟩
        refine ⟨_, rfl, ?_⟩
        replace HB := Aside0.mk (below_step (by repeat (first | (with_reducible first | exact HB.out | apply ba_ | apply bn_ | apply bd_) | exact HB.out)) hb)
        (try clear hb)
        (try clear hb2)
        (try clear hk)
        (try clear hi)
        refine hK.out _ _ ⟨((HB.out.cell (World.block_lt_of_cell? w _ hw1078_0)).trans hw1078_0), ((HB.out.cell (World.block_lt_of_cell? w _ hw1078_1)).trans hw1078_1), ((HB.out.cell (World.block_lt_of_cell? w _ hw1079_0)).trans hw1079_0), ((HB.out.cell (World.block_lt_of_cell? w _ hw1079_1)).trans hw1079_1)⟩ (fun hHeld => ?_)
        clear hK K
        refine norm_ (a' := ?_) ?_ ?_
        rotate_left
        ·show Act.put _ (some 25) _ = _
         simp only [Act.put, List.setIfInBounds_toArray, List.set_cons_zero, List.set_cons_succ, i64_w, i32_w]
         rfl
        refine pure_ (i := 9) (N := some 26) (v := ?_) (a' := ?_) #[true, true, true, true, true, true, true, true, true, true] rfl rfl (any_of HT_.out (by kernel_rfl)) (fun _ _ _ h => h) (Or.inl ⟨by rfl, ?_⟩) ?_ ?_
        rotate_left
        ·intro w'
         go_simp
         with_reducible rfl
        rotate_left
        ·simp only [Act.put, List.setIfInBounds_toArray, List.set_cons_zero, List.set_cons_succ, i64_w, i32_w]
         rfl
        refine done_ (done_of HT_.out (by kernel_rfl)) ?_
        try go_wp2
        go_ret
        exact ⟨er_, by repeat (first | (with_reducible first | exact HB.out | apply below_alloc | apply pw_below_drewN | apply below_drew1) | exact HB.out)⟩
      ·rw [if_neg c6] at H
       exact absurd H (by simp)
     ·rw [if_neg c5] at H
      exact absurd H (by simp)
    ·rw [if_neg c4] at H
     have c4b0 : decide (x5_1 < (l0.length : Int)) = false := decide_eq_false c4
     clear c4
     obtain rfl := Option.some.inj H
     go_wp2
     go_ret
     exact ⟨er_, by repeat (first | (with_reducible first | exact HB.out | apply below_alloc | apply pw_below_drewN | apply below_drew1) | exact HB.out)⟩
 ·rw [if_neg c3] at H
  have c3b0 : ((l0.length : Int) == (l1.length : Int)) = false := beq_eq_false_iff_ne.mpr c3
  have c3b1 : ((l0.length : Int) != (l1.length : Int)) = true := bne_iff_ne.mpr c3
  have c3b2 : (l0.length == l1.length) = false := by first | simpa using c3 | (simp at c3 ⊢; omega)
  obtain rfl := Option.some.inj H
  go_enter Try.func51, Try.ntmps51
  go_wp2
  go_ret
  exact ⟨er_, by repeat (first | (with_reducible first | exact HB.out | apply below_alloc | apply pw_below_drewN | apply below_drew1) | exact HB.out)⟩
end Go.Proofs.Ytmkcbbbknbahgaa.P
namespace Go.Proofs.Ytmkcbbbknbahgaa.P
open Go.RowKit Go.Proofs.YtmkcbbbknbahgaaW.PrintWords Go.Proofs.YtmkcbbbknbahgaaW.PrintLast Go.Proofs.YtmkcbbbknbahgaaW.PrintMore
attribute [local go_sem] max2_int min2_int max_two min_two max_three min_three max_four min_four   -- for this text's walks alone
set_option linter.unusedVariables false
set_option linter.unusedSimpArgs false

def laws_markAskedS.l0 : Nat → List (S74) → Int → Int → Option (Int × (List (S74)))
 | 0, _, _, _ => none
 | k + 1, x0, x1, x5 => if x5 < (x0.length : Int) then (if 0 ≤ x5 then ((some (x0.set (x5 : Int).toNat (⟨x1, (rd_T74 x0 x5).f1⟩ : S74) : List (S74))).bind fun y1081 => (laws_markAskedS.l0 k (y1081.set (x5 : Int).toNat (⟨(rd_T74 y1081 x5).f0, wrap64 (x1 + 1)⟩ : S74)) (wrap64 ((wrap64 (x1 + 1)) + 1)) (wrap64 (x5 + 1)))) else (none)) else (some (x1, x0))

def laws_markAskedS.f (k : Nat) (l0 : List (S74)) (a1 : Int) : Option (Int × (List (S74))) := laws_markAskedS.l0 k l0 a1 0

set_option maxHeartbeats 8000000 in
set_option maxRecDepth 100000 in
theorem laws_markAskedS.calls (k : Nat) (P0_ : Nat → Prop) (u9000_ : Value) (l0 : List (S74)) (a1 : Int) (r1 : Int) (r2 : List (S74)) (w0 w : World) (hB : Below w0.heap.size w0 w) (ho0 : Kd.R k74 74 w w0.heap.size P0_ u9000_ l0) (h : laws_markAskedS.f k l0 a1 = some (r1, r2)) :
  Calls Try.prog 52 #[u9000_, .int .i64 a1] w fun e w' => e = .returned (.int .i64 r1) ∧ Kd.R k74 74 w' w0.heap.size (fun k_ => (P0_ k_ ∨ w.heap.size ≤ k_)) u9000_ r2 ∧ Below w0.heap.size w0 w' ∧ Kept w w' (fun k_ => P0_ k_) := by
 have HO0 := Aside0.mk (show Kd.R k74 74 w w0.heap.size (fun k_ => (P0_ k_ ∨ w.heap.size ≤ k_)) u9000_ l0 from Kd.R_mono ho0 (fun k_ hk => (.inl hk)))
 have HK := Aside0.mk (Kept.refl w (fun k_ => P0_ k_))
 have HW0 := Aside0.mk hB.size
 have HB := Aside0.mk hB
 clear hB
 have H : (laws_markAskedS.l0 k l0 a1 0) = some (r1, r2) := h
 clear h
 have H' := Aside0.mk H
 clear H
 go_enter Try.func52, Try.ntmps52
 go_wp2
 go_loopg [1, 5] k (fun kq v1 v5 w' => ∃ (x0_1 : List (S74)) (x1_1 : Int) (x5_1 : Int), v1 = .int .i64 x1_1 ∧ v5 = .int .i64 x5_1 ∧ Aside0 (laws_markAskedS.l0 kq x0_1 x1_1 x5_1 = some (r1, r2)) ∧ Aside0 (kq ≤ k) ∧ Aside0 (Kd.R k74 74 w' w0.heap.size (fun k_ => (P0_ k_ ∨ w.heap.size ≤ k_)) u9000_ x0_1) ∧ Aside0 (Kept w w' (fun k_ => P0_ k_)) ∧ Aside0 (Below w0.heap.size w0 w'))
 case atStart => exact ⟨(l0), (a1), (0), (by first | rfl | (simp; done) | (simp [*]; done)), (by first | rfl | (simp; done) | (simp [*]; done)), H', ⟨Nat.le_refl _⟩, ⟨by (with_reducible repeat first | apply kr1_ | apply kr2_ | apply kr3_); exact HO0.out⟩, ⟨by repeat (first | (with_reducible first | exact HK.out | apply Kept.alloc | apply Kept.drewN | apply Kept.drew) | exact HK.out)⟩, ⟨by repeat (first | (with_reducible first | exact HB.out | apply below_alloc | apply pw_below_drewN | apply below_drew1) | exact HB.out)⟩⟩
 case round =>
  clear H'
  try clear p2
  obtain ⟨x0_1, x1_1, x5_1, rfl, rfl, HA, HK1, HO_0, HK, HB⟩ := hrel
  cases gk with
  | zero => exact absurd HA.out (by simp [laws_markAskedS.l0])
  | succ k1 =>
   have H := HA.out
   clear HA
   simp only [laws_markAskedS.l0] at H
   by_cases c3 : x5_1 < (x0_1.length : Int)
   ·rw [if_pos c3] at H
    have c3b0 : decide (x5_1 < (x0_1.length : Int)) = true := decide_eq_true c3
    clear c3
    by_cases c4 : 0 ≤ x5_1
    ·rw [if_pos c4] at H
     have c4b0 : decide (0 ≤ x5_1) = true := decide_eq_true c4
     clear c4
     obtain ⟨y1081, hy1081⟩ : ∃ y_ : List (S74), y_ = (x0_1.set (x5_1 : Int).toNat (⟨x1_1, (rd_T74 x0_1 x5_1).f1⟩ : S74)) := ⟨_, rfl⟩
     replace H : (laws_markAskedS.l0 k1 (y1081.set (x5_1 : Int).toNat (⟨(rd_T74 y1081 x5_1).f0, wrap64 (x1_1 + 1)⟩ : S74)) (wrap64 ((wrap64 (x1_1 + 1)) + 1)) (wrap64 (x5_1 + 1))) = some (r1, r2) := by first | (rw [hy1081]; with_reducible exact H) | (have H2_ := (Option.bind_some _ _).symm.trans H; rw [hy1081]; with_reducible exact H2_) | (have H2_ := (Option.bind_some _ _).symm.trans H; with_reducible exact H2_) | with_reducible exact H | (rw [hy1081]; exact H) | exact H
     have Ny1081 := Aside0.mk hy1081
     clear hy1081
     obtain ⟨y1082, hy1082⟩ : ∃ y_ : List (S74), y_ = (y1081.set (x5_1 : Int).toNat (⟨(rd_T74 y1081 x5_1).f0, wrap64 (x1_1 + 1)⟩ : S74)) := ⟨_, rfl⟩
     replace H : (laws_markAskedS.l0 k1 y1082 (wrap64 ((wrap64 (x1_1 + 1)) + 1)) (wrap64 (x5_1 + 1))) = some (r1, r2) := by first | (rw [hy1082]; with_reducible exact H) | (have H2_ := (Option.bind_some _ _).symm.trans H; rw [hy1082]; with_reducible exact H2_) | (have H2_ := (Option.bind_some _ _).symm.trans H; with_reducible exact H2_) | with_reducible exact H | (rw [hy1082]; exact H) | exact H
     have Ny1082 := Aside0.mk hy1082
     clear hy1082
     have H' := Aside0.mk H
     clear H
     obtain ⟨Ao7, co7, eo7⟩ := Kd.R_slice HO_0.out
     subst eo7
     have p5 : 0 ≤ (x5_1 : Int) := of_decide_eq_true as_
     have q5 : (x5_1 : Int) < ((x0_1.length : Int) : Int) := of_decide_eq_true as_
     obtain ⟨go5, co5, eo5, gb5, gl5, cl5, HG5⟩ := Kd.R_form HO_0.out (by omega)
     (first | cases eo5 | (injection eo5 with ea_ en_ ec_; (first | subst ea_ | (injection ea_ with ea_; subst ea_)); subst ec_; clear en_))
     have GB5 := Aside0.mk gb5
     have GG5 := Aside0.mk HG5
     clear gb5 gl5 HG5
     have HMgo5 := Aside0.mk (show (P0_ go5 ∨ w.heap.size ≤ go5) from (HO_0.out.1 _ rfl))
     obtain ⟨ce5, hcl5, hM5, hcc5, hfr5⟩ := Kd.R_elem HO_0.out z74 (x5_1 : Int) p5 q5
     obtain rfl := k74_openM hM5
     have hx5_0 : wr.cell? ⟨go5, (x5_1 : Int).toNat * 2, none⟩ = some (.int .i64 ((rd_T74 x0_1 x5_1).f0)) := hcc5 0 _ rfl
     have hx5_1 : wr.cell? ⟨go5, (x5_1 : Int).toNat * 2 + 1, none⟩ = some (.int .i64 ((rd_T74 x0_1 x5_1).f1)) := hcc5 1 _ rfl
     have hf5_0 : wr.frozen? ⟨go5, (x5_1 : Int).toNat * 2, none⟩ = false := hfr5 0
     have hf5_1 : wr.frozen? ⟨go5, (x5_1 : Int).toNat * 2 + 1, none⟩ = false := hfr5 1
     clear hcl5 hcc5 hfr5; (try clear hM5)
     replace p5 := eq_true p5
     replace q5 := eq_true q5
     have HX8 := Aside0.mk (show Kd.R k74 74 wr w0.heap.size (fun k_ => (P0_ k_ ∨ w.heap.size ≤ k_)) (.slice (some ⟨go5, 0, none⟩) x0_1.length co7) x0_1 from (rK_ HO_0))
     obtain ⟨ce8, hcl8, hM8, hcc8, hfr8⟩ := Kd.R_elem HX8.out z74 (x5_1 : Int) (of_decide_eq_true as_) (by have h_ : (x5_1 : Int) < ((x0_1.length : Int) : Int) := of_decide_eq_true as_; first | exact h_ | (have e_ := (Kd.R_reads' HO_0.out).1; omega) | simpa using h_)
     obtain rfl := k74_openM hM8
     have HP8 := Kd.R_seg HX8.out (x5_1 : Int) (of_decide_eq_true as_) (by have h_ : (x5_1 : Int) < ((x0_1.length : Int) : Int) := of_decide_eq_true as_; first | exact h_ | (have e_ := (Kd.R_reads' HO_0.out).1; omega) | simpa using h_) (seg := [.int .i64 x1_1]) (j := 0) hcl8 hcc8 (show 1 ≤ 2 from by decide) (x' := (⟨x1_1, (rd_T74 x0_1 x5_1).f1⟩ : S74)) (k74_mkM _ _ _ (⟨x1_1, (rd_T74 x0_1 x5_1).f1⟩ : S74) ) (fun _ hk => hk)
     have hx8_0 := hcc8 0 _ rfl
     (try simp only [show (k74).sz = 2 from rfl, Nat.mul_one, Nat.add_zero] at hx8_0)
     have hf8_0 := hfr8 0
     (try simp only [show (k74).sz = 2 from rfl, Nat.mul_one, Nat.add_zero] at hf8_0)
     clear hcl8 hcc8 hfr8; (try clear hM8)
     go_wp2_with (first | ((with_reducible refine gate_store (t := 3) (p := 16) rfl ?_); refine store_event (t := 3) (p := 16) (v := ?vo_w9) (w1 := (wr.setCell ⟨go5, (x5_1 : Int).toNat * 2, none⟩ (.int .i64 x1_1))) ?hg ?ho ?hn ?hr ?_; (case ho => rfl); (case hg => rfl); (case hn => rfl); (case hr => exact gs_); intro w9 hw; have hg : wr.grownBy w9 (some go5) := (by rw [hw]; exact HP8.2); have hp_ : Kd.R k74 74 w9 w0.heap.size (fun k_ => (P0_ k_ ∨ w.heap.size ≤ k_)) (.slice (some ⟨go5, 0, none⟩) x0_1.length co7) y1081 := (by rw [hw, Ny1081.out]; exact HP8.1); clear HP8; replace HB := Aside0.mk ((by rw [hw]; exact below_set (HB.out) GB5.out : Below w0.heap.size w0 w9)); replace HK := Aside0.mk (Kept.of_grown (S := (fun k_ => P0_ k_)) hg (by repeat (first | (with_reducible first | exact HK.out | apply Kept.alloc | apply Kept.drewN | apply Kept.drew) | exact HK.out)) (fun k_ e_ => (HO_0.out.1 k_ e_))); replace HO_0 := Aside0.mk (hp_); clear hg hw hp_; have p6 : 0 ≤ (x5_1 : Int) := of_decide_eq_true as_; have q6 : (x5_1 : Int) < ((x0_1.length : Int) : Int) := of_decide_eq_true as_; obtain ⟨ce6, hcl6, hM6, hcc6, hfr6⟩ := Kd.R_elem HO_0.out z74 (x5_1 : Int) p6 q6; obtain rfl := k74_openM hM6; have hx6_0 : w9.cell? ⟨go5, (x5_1 : Int).toNat * 2, none⟩ = some (.int .i64 ((rd_T74 y1081 x5_1).f0)) := hcc6 0 _ rfl; have hx6_1 : w9.cell? ⟨go5, (x5_1 : Int).toNat * 2 + 1, none⟩ = some (.int .i64 ((rd_T74 y1081 x5_1).f1)) := hcc6 1 _ rfl; have hf6_0 : w9.frozen? ⟨go5, (x5_1 : Int).toNat * 2, none⟩ = false := hfr6 0; have hf6_1 : w9.frozen? ⟨go5, (x5_1 : Int).toNat * 2 + 1, none⟩ = false := hfr6 1; clear hcl6 hcc6 hfr6; (try clear hM6); replace p6 := eq_true p6; replace q6 := eq_true q6; have HX10 := Aside0.mk (show Kd.R k74 74 w9 w0.heap.size (fun k_ => (P0_ k_ ∨ w.heap.size ≤ k_)) (.slice (some ⟨go5, 0, none⟩) x0_1.length co7) y1081 from (rK_ HO_0)); obtain ⟨ce10, hcl10, hM10, hcc10, hfr10⟩ := Kd.R_elem HX10.out z74 (x5_1 : Int) (of_decide_eq_true as_) (by have h_ : (x5_1 : Int) < ((x0_1.length : Int) : Int) := of_decide_eq_true as_; first | exact h_ | (have e_ := (Kd.R_reads' HO_0.out).1; omega) | simpa using h_); obtain rfl := k74_openM hM10; have HP10 := Kd.R_seg HX10.out (x5_1 : Int) (of_decide_eq_true as_) (by have h_ : (x5_1 : Int) < ((x0_1.length : Int) : Int) := of_decide_eq_true as_; first | exact h_ | (have e_ := (Kd.R_reads' HO_0.out).1; omega) | simpa using h_) (seg := [.int .i64 (wrap64 (x1_1 + 1))]) (j := 1) hcl10 hcc10 (show 2 ≤ 2 from by decide) (x' := (⟨(rd_T74 y1081 x5_1).f0, wrap64 (x1_1 + 1)⟩ : S74)) (k74_mkM _ _ _ (⟨(rd_T74 y1081 x5_1).f0, wrap64 (x1_1 + 1)⟩ : S74) ) (fun _ hk => hk); have hx10_1 := hcc10 1 _ rfl; (try simp only [show (k74).sz = 2 from rfl, Nat.mul_one, Nat.add_zero] at hx10_1); have hf10_1 := hfr10 1; (try simp only [show (k74).sz = 2 from rfl, Nat.mul_one, Nat.add_zero] at hf10_1); clear hcl10 hcc10 hfr10; (try clear hM10)) | ((with_reducible refine gate_store (t := 3) (p := 23) rfl ?_); refine store_event (t := 3) (p := 23) (v := ?vo_w11) (w1 := (w9.setCell ⟨go5, (x5_1 : Int).toNat * 2 + 1, none⟩ (.int .i64 (wrap64 (x1_1 + 1))))) ?hg ?ho ?hn ?hr ?_; (case ho => rfl); (case hg => rfl); (case hn => rfl); (case hr => exact gs_); intro w11 hw; have hg : w9.grownBy w11 (some go5) := (by rw [hw]; exact HP10.2); have hp_ : Kd.R k74 74 w11 w0.heap.size (fun k_ => (P0_ k_ ∨ w.heap.size ≤ k_)) (.slice (some ⟨go5, 0, none⟩) x0_1.length co7) y1082 := (by rw [hw, Ny1082.out]; exact HP10.1); clear HP10; replace HB := Aside0.mk ((by rw [hw]; exact below_set (HB.out) GB5.out : Below w0.heap.size w0 w11)); replace HK := Aside0.mk (Kept.of_grown (S := (fun k_ => P0_ k_)) hg (by repeat (first | (with_reducible first | exact HK.out | apply Kept.alloc | apply Kept.drewN | apply Kept.drew) | exact HK.out)) (fun k_ e_ => (HO_0.out.1 k_ e_))); replace HO_0 := Aside0.mk (hp_); clear hg hw hp_))
     go_roundg k1
     case measure => have := HK1.out; omega
     case rel => exact ⟨(y1082), (wrap64 ((wrap64 (x1_1 + 1)) + 1)), (wrap64 (x5_1 + 1)), (by first | rfl | (simp; done) | (simp [*]; done)), (by first | rfl | (simp; done) | (simp [*]; done)), H', ⟨by have := HK1.out; omega⟩, ⟨by (with_reducible repeat first | apply kr1_ | apply kr2_ | apply kr3_); exact HO_0.out⟩, ⟨by repeat (first | (with_reducible first | exact HK.out | apply Kept.alloc | apply Kept.drewN | apply Kept.drew) | exact HK.out)⟩, ⟨by repeat (first | (with_reducible first | exact HB.out | apply below_alloc | apply pw_below_drewN | apply below_drew1) | exact HB.out)⟩⟩
    ·rw [if_neg c4] at H
     exact absurd H (by simp)
   ·rw [if_neg c3] at H
    have c3b0 : decide (x5_1 < (x0_1.length : Int)) = false := decide_eq_false c3
    clear c3
    simp only [Option.some.injEq, Prod.mk.injEq] at H
    obtain ⟨rfl, rfl⟩ := H
    obtain ⟨Ao12, co12, eo12⟩ := Kd.R_slice HO_0.out
    subst eo12
    go_wp2
    go_ret
    exact ⟨er_, by (with_reducible repeat first | apply kr1_ | apply kr2_ | apply kr3_); exact HO_0.out, by repeat (first | (with_reducible first | exact HB.out | apply below_alloc | apply pw_below_drewN | apply below_drew1) | exact HB.out), by repeat (first | (with_reducible first | exact HK.out | apply Kept.alloc | apply Kept.drewN | apply Kept.drew) | exact HK.out)⟩
end Go.Proofs.Ytmkcbbbknbahgaa.P
namespace Go.Proofs.Ytmkcbbbknbahgaa.P
open Go.RowKit Go.Proofs.YtmkcbbbknbahgaaW.PrintWords Go.Proofs.YtmkcbbbknbahgaaW.PrintLast Go.Proofs.YtmkcbbbknbahgaaW.PrintMore
attribute [local go_sem] max2_int min2_int max_two min_two max_three min_three max_four min_four   -- for this text's walks alone
set_option linter.unusedVariables false
set_option linter.unusedSimpArgs false

def laws_heldWindowS.l0 : Nat → List (S32) → Int → Int → Option (Int)
 | 0, _, _, _ => none
 | k + 1, x0, x1, x5 => if x5 < (x0.length : Int) then (if 0 ≤ x5 then (if ((rd_T32 x0 x5).f0) = x1 then (if ((rd_T32 x0 x5).f1) = (wrap64 (x1 + 1)) then (if ((rd_T32 x0 x5).f2) = (wrap64 ((wrap64 (x1 + 1)) + 1)) then (if ((rd_T32 x0 x5).f3) = (wrap64 ((wrap64 ((wrap64 (x1 + 1)) + 1)) + 1)) then (laws_heldWindowS.l0 k x0 (wrap64 ((wrap64 ((wrap64 ((wrap64 (x1 + 1)) + 1)) + 1)) + 1)) (wrap64 (x5 + 1))) else (some (-1))) else (some (-1))) else (some (-1))) else (some (-1))) else (none)) else (some x1)

def laws_heldWindowS.f (k : Nat) (l0 : List (S32)) (a1 : Int) : Option (Int) := laws_heldWindowS.l0 k l0 a1 0

set_option maxHeartbeats 8000000 in
set_option maxRecDepth 100000 in
theorem laws_heldWindowS.calls (k : Nat) (A0 : Option Addr) (c0 : Nat) (l0 : List (S32)) (a1 : Int) (r : Int) (w : World) (hr0 : Kd.C k32 w A0 l0.length l0) (hc0 : l0.length ≤ c0) (h : laws_heldWindowS.f k l0 a1 = some r) :
  Calls Try.prog 54 #[.slice A0 l0.length c0, .int .i64 a1] w fun e w' => e = .returned (.int .i64 r) ∧ Drawn0 w w' := by
 have HR0 := Aside0.mk hr0
 have HC0 := Aside0.mk hc0
 clear hr0 hc0
 have H : (laws_heldWindowS.l0 k l0 a1 0) = some r := h
 clear h
 have H' := Aside0.mk H
 clear H
 go_enter Try.func54, Try.ntmps54
 go_wp2
 go_loopg [1, 5] k (fun kq v1 v5 w' => ∃ (x1_1 : Int) (x5_1 : Int), v1 = .int .i64 x1_1 ∧ v5 = .int .i64 x5_1 ∧ Aside0 (laws_heldWindowS.l0 kq l0 x1_1 x5_1 = some r) ∧ Aside0 (kq ≤ k) ∧ Drawn0 w w')
 case atStart => exact ⟨(a1), (0), (by first | rfl | (simp; done) | (simp [*]; done)), (by first | rfl | (simp; done) | (simp [*]; done)), H', ⟨Nat.le_refl _⟩, by repeat (first | exact Drawn0.refl _ | apply Drawn0.step)⟩
 case round =>
  clear H'
  try clear p2
  obtain ⟨x1_1, x5_1, rfl, rfl, HA, HK1, ⟨m1, rfl⟩⟩ := hrel
  cases gk with
  | zero => exact absurd HA.out (by simp [laws_heldWindowS.l0])
  | succ k1 =>
   have H := HA.out
   clear HA
   simp only [laws_heldWindowS.l0] at H
   by_cases c3 : x5_1 < (l0.length : Int)
   ·rw [if_pos c3] at H
    have c3b0 : decide (x5_1 < (l0.length : Int)) = true := decide_eq_true c3
    clear c3
    by_cases c4 : 0 ≤ x5_1
    ·rw [if_pos c4] at H
     have c4b0 : decide (0 ≤ x5_1) = true := decide_eq_true c4
     clear c4
     by_cases c5 : ((rd_T32 l0 x5_1).f0) = x1_1
     ·rw [if_pos c5] at H
      have c5b0 : (((rd_T32 l0 x5_1).f0) == x1_1) = true := beq_iff_eq.mpr c5
      have c5b1 : (((rd_T32 l0 x5_1).f0) != x1_1) = false := bne_eq_false_iff_eq.mpr c5
      clear c5
      by_cases c6 : ((rd_T32 l0 x5_1).f1) = (wrap64 (x1_1 + 1))
      ·rw [if_pos c6] at H
       have c6b0 : (((rd_T32 l0 x5_1).f1) == (wrap64 (x1_1 + 1))) = true := beq_iff_eq.mpr c6
       have c6b1 : (((rd_T32 l0 x5_1).f1) != (wrap64 (x1_1 + 1))) = false := bne_eq_false_iff_eq.mpr c6
       clear c6
       by_cases c7 : ((rd_T32 l0 x5_1).f2) = (wrap64 ((wrap64 (x1_1 + 1)) + 1))
       ·rw [if_pos c7] at H
        have c7b0 : (((rd_T32 l0 x5_1).f2) == (wrap64 ((wrap64 (x1_1 + 1)) + 1))) = true := beq_iff_eq.mpr c7
        have c7b1 : (((rd_T32 l0 x5_1).f2) != (wrap64 ((wrap64 (x1_1 + 1)) + 1))) = false := bne_eq_false_iff_eq.mpr c7
        clear c7
        by_cases c8 : ((rd_T32 l0 x5_1).f3) = (wrap64 ((wrap64 ((wrap64 (x1_1 + 1)) + 1)) + 1))
        ·rw [if_pos c8] at H
         have c8b0 : (((rd_T32 l0 x5_1).f3) == (wrap64 ((wrap64 ((wrap64 (x1_1 + 1)) + 1)) + 1))) = true := beq_iff_eq.mpr c8
         have c8b1 : (((rd_T32 l0 x5_1).f3) != (wrap64 ((wrap64 ((wrap64 (x1_1 + 1)) + 1)) + 1))) = false := bne_eq_false_iff_eq.mpr c8
         clear c8
         have H' := Aside0.mk H
         clear H
         have p1087 : 0 ≤ (x5_1 : Int) := of_decide_eq_true as_
         have q1087 : x5_1 < (l0.length : Int) := of_decide_eq_true as_
         obtain ⟨ad1087, e1087, hx1087_0, hx1087_1, hx1087_2, hx1087_3⟩ := at_T32 HR0.out x5_1 p1087 q1087
         cases e1087
         replace p1087 := eq_true p1087
         replace q1087 := eq_true q1087
         have p1088 : 0 ≤ (x5_1 : Int) := of_decide_eq_true as_
         have q1088 : x5_1 < (l0.length : Int) := of_decide_eq_true as_
         obtain ⟨ad1088, e1088, hx1088_0, hx1088_1, hx1088_2, hx1088_3⟩ := at_T32 HR0.out x5_1 p1088 q1088
         obtain rfl : ad1087 = ad1088 := (by injection e1088)
         replace p1088 := eq_true p1088
         replace q1088 := eq_true q1088
         have p1089 : 0 ≤ (x5_1 : Int) := of_decide_eq_true as_
         have q1089 : x5_1 < (l0.length : Int) := of_decide_eq_true as_
         obtain ⟨ad1089, e1089, hx1089_0, hx1089_1, hx1089_2, hx1089_3⟩ := at_T32 HR0.out x5_1 p1089 q1089
         obtain rfl : ad1087 = ad1089 := (by injection e1089)
         replace p1089 := eq_true p1089
         replace q1089 := eq_true q1089
         have p1090 : 0 ≤ (x5_1 : Int) := of_decide_eq_true as_
         have q1090 : x5_1 < (l0.length : Int) := of_decide_eq_true as_
         obtain ⟨ad1090, e1090, hx1090_0, hx1090_1, hx1090_2, hx1090_3⟩ := at_T32 HR0.out x5_1 p1090 q1090
         obtain rfl : ad1087 = ad1090 := (by injection e1090)
         replace p1090 := eq_true p1090
         replace q1090 := eq_true q1090
         go_wp2
         go_roundg k1
         case measure => have := HK1.out; omega
         case rel => exact ⟨(wrap64 ((wrap64 ((wrap64 ((wrap64 (x1_1 + 1)) + 1)) + 1)) + 1)), (wrap64 (x5_1 + 1)), (by first | rfl | (simp; done) | (simp [*]; done)), (by first | rfl | (simp; done) | (simp [*]; done)), H', ⟨by have := HK1.out; omega⟩, by repeat (first | exact Drawn0.refl _ | apply Drawn0.step)⟩
        ·rw [if_neg c8] at H
         have c8b0 : (((rd_T32 l0 x5_1).f3) == (wrap64 ((wrap64 ((wrap64 (x1_1 + 1)) + 1)) + 1))) = false := beq_eq_false_iff_ne.mpr c8
         have c8b1 : (((rd_T32 l0 x5_1).f3) != (wrap64 ((wrap64 ((wrap64 (x1_1 + 1)) + 1)) + 1))) = true := bne_iff_ne.mpr c8
         obtain rfl := Option.some.inj H
         have p1087 : 0 ≤ (x5_1 : Int) := of_decide_eq_true as_
         have q1087 : x5_1 < (l0.length : Int) := of_decide_eq_true as_
         obtain ⟨ad1087, e1087, hx1087_0, hx1087_1, hx1087_2, hx1087_3⟩ := at_T32 HR0.out x5_1 p1087 q1087
         cases e1087
         replace p1087 := eq_true p1087
         replace q1087 := eq_true q1087
         have p1088 : 0 ≤ (x5_1 : Int) := of_decide_eq_true as_
         have q1088 : x5_1 < (l0.length : Int) := of_decide_eq_true as_
         obtain ⟨ad1088, e1088, hx1088_0, hx1088_1, hx1088_2, hx1088_3⟩ := at_T32 HR0.out x5_1 p1088 q1088
         obtain rfl : ad1087 = ad1088 := (by injection e1088)
         replace p1088 := eq_true p1088
         replace q1088 := eq_true q1088
         have p1089 : 0 ≤ (x5_1 : Int) := of_decide_eq_true as_
         have q1089 : x5_1 < (l0.length : Int) := of_decide_eq_true as_
         obtain ⟨ad1089, e1089, hx1089_0, hx1089_1, hx1089_2, hx1089_3⟩ := at_T32 HR0.out x5_1 p1089 q1089
         obtain rfl : ad1087 = ad1089 := (by injection e1089)
         replace p1089 := eq_true p1089
         replace q1089 := eq_true q1089
         have p1090 : 0 ≤ (x5_1 : Int) := of_decide_eq_true as_
         have q1090 : x5_1 < (l0.length : Int) := of_decide_eq_true as_
         obtain ⟨ad1090, e1090, hx1090_0, hx1090_1, hx1090_2, hx1090_3⟩ := at_T32 HR0.out x5_1 p1090 q1090
         obtain rfl : ad1087 = ad1090 := (by injection e1090)
         replace p1090 := eq_true p1090
         replace q1090 := eq_true q1090
         go_wp2
         go_ret
         exact ⟨by first | rfl | (simp; done) | (simp [*]; done), by repeat (first | exact Drawn0.refl _ | apply Drawn0.step)⟩
       ·rw [if_neg c7] at H
        have c7b0 : (((rd_T32 l0 x5_1).f2) == (wrap64 ((wrap64 (x1_1 + 1)) + 1))) = false := beq_eq_false_iff_ne.mpr c7
        have c7b1 : (((rd_T32 l0 x5_1).f2) != (wrap64 ((wrap64 (x1_1 + 1)) + 1))) = true := bne_iff_ne.mpr c7
        obtain rfl := Option.some.inj H
        have p1087 : 0 ≤ (x5_1 : Int) := of_decide_eq_true as_
        have q1087 : x5_1 < (l0.length : Int) := of_decide_eq_true as_
        obtain ⟨ad1087, e1087, hx1087_0, hx1087_1, hx1087_2, hx1087_3⟩ := at_T32 HR0.out x5_1 p1087 q1087
        cases e1087
        replace p1087 := eq_true p1087
        replace q1087 := eq_true q1087
        have p1088 : 0 ≤ (x5_1 : Int) := of_decide_eq_true as_
        have q1088 : x5_1 < (l0.length : Int) := of_decide_eq_true as_
        obtain ⟨ad1088, e1088, hx1088_0, hx1088_1, hx1088_2, hx1088_3⟩ := at_T32 HR0.out x5_1 p1088 q1088
        obtain rfl : ad1087 = ad1088 := (by injection e1088)
        replace p1088 := eq_true p1088
        replace q1088 := eq_true q1088
        have p1089 : 0 ≤ (x5_1 : Int) := of_decide_eq_true as_
        have q1089 : x5_1 < (l0.length : Int) := of_decide_eq_true as_
        obtain ⟨ad1089, e1089, hx1089_0, hx1089_1, hx1089_2, hx1089_3⟩ := at_T32 HR0.out x5_1 p1089 q1089
        obtain rfl : ad1087 = ad1089 := (by injection e1089)
        replace p1089 := eq_true p1089
        replace q1089 := eq_true q1089
        go_wp2
        go_ret
        exact ⟨by first | rfl | (simp; done) | (simp [*]; done), by repeat (first | exact Drawn0.refl _ | apply Drawn0.step)⟩
      ·rw [if_neg c6] at H
       have c6b0 : (((rd_T32 l0 x5_1).f1) == (wrap64 (x1_1 + 1))) = false := beq_eq_false_iff_ne.mpr c6
       have c6b1 : (((rd_T32 l0 x5_1).f1) != (wrap64 (x1_1 + 1))) = true := bne_iff_ne.mpr c6
       obtain rfl := Option.some.inj H
       have p1087 : 0 ≤ (x5_1 : Int) := of_decide_eq_true as_
       have q1087 : x5_1 < (l0.length : Int) := of_decide_eq_true as_
       obtain ⟨ad1087, e1087, hx1087_0, hx1087_1, hx1087_2, hx1087_3⟩ := at_T32 HR0.out x5_1 p1087 q1087
       cases e1087
       replace p1087 := eq_true p1087
       replace q1087 := eq_true q1087
       have p1088 : 0 ≤ (x5_1 : Int) := of_decide_eq_true as_
       have q1088 : x5_1 < (l0.length : Int) := of_decide_eq_true as_
       obtain ⟨ad1088, e1088, hx1088_0, hx1088_1, hx1088_2, hx1088_3⟩ := at_T32 HR0.out x5_1 p1088 q1088
       obtain rfl : ad1087 = ad1088 := (by injection e1088)
       replace p1088 := eq_true p1088
       replace q1088 := eq_true q1088
       go_wp2
       go_ret
       exact ⟨by first | rfl | (simp; done) | (simp [*]; done), by repeat (first | exact Drawn0.refl _ | apply Drawn0.step)⟩
     ·rw [if_neg c5] at H
      have c5b0 : (((rd_T32 l0 x5_1).f0) == x1_1) = false := beq_eq_false_iff_ne.mpr c5
      have c5b1 : (((rd_T32 l0 x5_1).f0) != x1_1) = true := bne_iff_ne.mpr c5
      obtain rfl := Option.some.inj H
      have p1087 : 0 ≤ (x5_1 : Int) := of_decide_eq_true as_
      have q1087 : x5_1 < (l0.length : Int) := of_decide_eq_true as_
      obtain ⟨ad1087, e1087, hx1087_0, hx1087_1, hx1087_2, hx1087_3⟩ := at_T32 HR0.out x5_1 p1087 q1087
      cases e1087
      replace p1087 := eq_true p1087
      replace q1087 := eq_true q1087
      go_wp2
      go_ret
      exact ⟨by first | rfl | (simp; done) | (simp [*]; done), by repeat (first | exact Drawn0.refl _ | apply Drawn0.step)⟩
    ·rw [if_neg c4] at H
     exact absurd H (by simp)
   ·rw [if_neg c3] at H
    have c3b0 : decide (x5_1 < (l0.length : Int)) = false := decide_eq_false c3
    clear c3
    obtain rfl := Option.some.inj H
    go_wp2
    go_ret
    exact ⟨by first | rfl | (simp; done) | (simp [*]; done), by repeat (first | exact Drawn0.refl _ | apply Drawn0.step)⟩
end Go.Proofs.Ytmkcbbbknbahgaa.P
namespace Go.Proofs.Ytmkcbbbknbahgaa.P
open Go.RowKit Go.Proofs.YtmkcbbbknbahgaaW.PrintWords Go.Proofs.YtmkcbbbknbahgaaW.PrintLast Go.Proofs.YtmkcbbbknbahgaaW.PrintMore
set_option linter.unusedVariables false
set_option linter.unusedSimpArgs false

set_option maxHeartbeats 8000000 in
set_option maxRecDepth 100000 in
theorem FnExactGiveAll.walk (k : Nat) (A0_0 : Option Addr) (c0_0 : Nat) (l0_0 : List (List Int)) (a0_1 : Int) (a0_2 : Int) (a0_3 : Int) (a0_4 : Int) (a0_5 : Int) (A0_6 : Option Addr) (c0_6 : Nat) (l0_6 : List Int) (A1 : Option Addr) (c1 : Nat) (l1 : List S67) (r5 : Int) (r9 : Int) (r21 : List (List Int)) (r22 : Int) (r23 : Int) (r24 : Int) (r25 : Int) (r26 : Int) (r27 : List Int) (r37 : List S74) (r44 : List (List Int)) (r45 : Int) (r46 : Int) (r47 : Int) (r48 : Int) (r49 : Int) (r50 : List Int) (r51 : List S32) (r52 : Bool) (m158 : Int) (x159 : List (List Int)) (x160 : List Int) (m168 : Int) (x169 : List S74) (m205 : Int) (x206 : List (List Int)) (x207 : List Int) (m215 : Int) (x216 : List S32) (w : World) (HR0_0 : Kd.C (Kd.slice 5 (Kd.int .u8)) w A0_0 l0_0.length l0_0) (HC0_0 : l0_0.length ≤ c0_0) (HR0_6 : Kd.C (Kd.int .i64) w A0_6 l0_6.length l0_6) (HC0_6 : l0_6.length ≤ c0_6) (HR1 : Kd.C k67 w A1 l1.length l1) (HC1 : l1.length ≤ c1) (e6 : laws_szArena.f k l0_0 a0_1 a0_2 a0_3 a0_4 a0_5 l0_6 1048576 = some r5) (n_r5 : ¬ r5 < 0) (e10 : laws_szAskedS.f l1 r5 = some r9) (n_r9 : ¬ r9 < 0) (e28 : laws_toArena.f k l0_0 a0_1 a0_2 a0_3 a0_4 a0_5 l0_6 = some (r21, r22, r23, r24, r25, r26, r27)) (e38 : laws_toAskedS.f k l1 = some r37) (e53 : spec_GiveAll.f k r21 r22 r23 r24 r25 r26 r27 r37 = some (r44, r45, r46, r47, r48, r49, r50, r51, r52)) (e100 : impl_GiveAll.f k r21 r22 r23 r24 r25 r26 r27 r37 = some (r44, r45, r46, r47, r48, r49, r50, r51, r52)) (e123 : laws_eqArena.f k r44 r45 r46 r47 r48 r49 r50 r44 r45 r46 r47 r48 r49 r50 = some true) (e126 : laws_eqWindowS.f k r51 r51 = some true) (e139 : laws_eqArena.f k r21 r22 r23 r24 r25 r26 r27 r21 r22 r23 r24 r25 r26 r27 = some true) (e147 : laws_eqAskedS.f k r37 r37 = some true) (e161 : laws_markArena.f k r21 r27 1 = some (m158, x159, x160)) (e170 : laws_markAskedS.f k r37 m158 = some (m168, x169)) (n_m168 : ¬ m168 < 0) (e208 : laws_markArena.f k r44 r50 1 = some (m205, x206, x207)) (e217 : laws_markWindowS.f k r51 m205 = some (m215, x216)) (e230 : laws_heldArena.f k x206 r45 r46 r47 r48 r49 x207 1 = some m205) (n_m205 : ¬ m205 < 0) (e233 : laws_heldWindowS.f k x216 m205 = some m215) (n_m215 : ¬ m215 < 0) :
    Calls Try.prog 8 #[.agg #[.slice A0_0 l0_0.length c0_0, .int .i64 a0_1, .int .i64 a0_2, .int .i64 a0_3, .int .i64 a0_4, .int .i64 a0_5, .slice A0_6 l0_6.length c0_6], .slice A1 l1.length c1] w fun e w' => e = .returned (.bool true) ∧ Below w.heap.size w w' := by
  have hu65 := Try.underlying65
  have hu70 := Try.underlying70
  replace HR0_0 := Aside0.mk HR0_0
  replace HC0_0 := Aside0.mk HC0_0
  replace HR0_6 := Aside0.mk HR0_6
  replace HC0_6 := Aside0.mk HC0_6
  replace HR1 := Aside0.mk HR1
  replace HC1 := Aside0.mk HC1
  replace e6 := Aside0.mk e6
  replace n_r5 := decide_eq_false n_r5
  replace e10 := Aside0.mk e10
  replace n_r9 := decide_eq_false n_r9
  replace e28 := Aside0.mk e28
  replace e38 := Aside0.mk e38
  replace e53 := Aside0.mk e53
  replace e100 := Aside0.mk e100
  replace e123 := Aside0.mk e123
  replace e126 := Aside0.mk e126
  replace e139 := Aside0.mk e139
  replace e147 := Aside0.mk e147
  replace e161 := Aside0.mk e161
  replace e170 := Aside0.mk e170
  replace n_m168 := decide_eq_false n_m168
  replace e208 := Aside0.mk e208
  replace e217 := Aside0.mk e217
  replace e230 := Aside0.mk e230
  replace n_m205 := decide_eq_false n_m205
  replace e233 := Aside0.mk e233
  replace n_m215 := decide_eq_false n_m215
  have HB := Aside0.mk (Below.refl w.heap.size w)
  go_enter Try.func8, Try.ntmps8
  go_wp2_with fail
  have HA2 := Below.alloc (Below.refl w.heap.size w) (Nat.le_refl _) (.cells #[.slice A0_0 l0_0.length c0_0, .int .i64 a0_1, .int .i64 a0_2, .int .i64 a0_3, .int .i64 a0_4, .int .i64 a0_5, .slice A0_6 l0_6.length c0_6] 65)
  have BK1 := Aside0.mk (heap_alloc_new w (.cells #[.slice A0_0 l0_0.length c0_0, .int .i64 a0_1, .int .i64 a0_2, .int .i64 a0_3, .int .i64 a0_4, .int .i64 a0_5, .slice A0_6 l0_6.length c0_6] 65))
  replace HB := Aside0.mk (below_step HB.out HA2)
  have Z3 := Aside0.mk (show w.heap.size < (w.alloc (.cells #[.slice A0_0 l0_0.length c0_0, .int .i64 a0_1, .int .i64 a0_2, .int .i64 a0_3, .int .i64 a0_4, .int .i64 a0_5, .slice A0_6 l0_6.length c0_6] 65)).heap.size by simp)
  clear HA2
  refine (laws_szArena.calls k A0_0 c0_0 l0_0 a0_1 a0_2 a0_3 a0_4 a0_5 A0_6 c0_6 l0_6 1048576 r5 (w.alloc (.cells #[.slice A0_0 l0_0.length c0_0, .int .i64 a0_1, .int .i64 a0_2, .int .i64 a0_3, .int .i64 a0_4, .int .i64 a0_5, .slice A0_6 l0_6.length c0_6] 65)) (Kd.C_below HR0_0.out HB.out) HC0_0.out (Kd.C_below HR0_6.out HB.out) HC0_6.out e6.out).mono ?_
  rintro e w4 ⟨rfl, hb⟩
  replace BK1 := Aside0.mk (blk_below BK1.out hb)
  have Z7 := Aside0.mk (below_size hb)
  replace HB := Aside0.mk (below_step HB.out hb)
  clear hb 
  go_wp2_with fail
  refine (laws_szAskedS.calls A1 c1 l1 r5 r9 w4 (Kd.C_below HR1.out HB.out) HC1.out e10.out).mono ?_
  rintro e w8 ⟨rfl, hb⟩
  replace hb := Drawn0.below hb
  replace BK1 := Aside0.mk (blk_below BK1.out hb)
  have Z11 := Aside0.mk (below_size hb)
  replace HB := Aside0.mk (below_step HB.out hb)
  clear hb 
  have hz12 : w8.cell? ⟨w.heap.size, 0, none⟩ = some (.slice A0_0 l0_0.length c0_0) := (blk_cell BK1.out 0).trans rfl
  have hz13 : w8.cell? ⟨w.heap.size, 1, none⟩ = some (.int .i64 a0_1) := (blk_cell BK1.out 1).trans rfl
  have hz14 : w8.cell? ⟨w.heap.size, 2, none⟩ = some (.int .i64 a0_2) := (blk_cell BK1.out 2).trans rfl
  have hz15 : w8.cell? ⟨w.heap.size, 3, none⟩ = some (.int .i64 a0_3) := (blk_cell BK1.out 3).trans rfl
  have hz16 : w8.cell? ⟨w.heap.size, 4, none⟩ = some (.int .i64 a0_4) := (blk_cell BK1.out 4).trans rfl
  have hz17 : w8.cell? ⟨w.heap.size, 5, none⟩ = some (.int .i64 a0_5) := (blk_cell BK1.out 5).trans rfl
  have hz18 : w8.cell? ⟨w.heap.size, 6, none⟩ = some (.slice A0_6 l0_6.length c0_6) := (blk_cell BK1.out 6).trans rfl
  have hl19 : w.heap.size < w8.heap.size := blk_lt BK1.out
  go_wp2_with fail
  clear hz12 hz13 hz14 hz15 hz16 hz17 hz18 hl19
  refine (laws_toArena.calls k A0_0 c0_0 l0_0 a0_1 a0_2 a0_3 a0_4 a0_5 A0_6 c0_6 l0_6 r21 r22 r23 r24 r25 r26 r27 w8 (Kd.C_below HR0_0.out HB.out) HC0_0.out (Kd.C_below HR0_6.out HB.out) HC0_6.out e28.out).mono ?_
  rintro e w20 ⟨v0_w20, v6_w20, rfl, h0_w20, h6_w20, hb⟩
  replace BK1 := Aside0.mk (blk_below BK1.out hb)
  obtain ⟨A29, c30, rfl⟩ := Kd.S_slice h0_w20
  have O31 := Aside0.mk (show Kd.S (Kd.slice 5 (Kd.int .u8)) 29 w20 w.heap.size (Seg w8.heap.size w20.heap.size w20 [29, 5]) (.slice A29 r21.length c30) r21 from Kd.S_lower (Kd.S_mono (Kd.S_bound h0_w20) (fun k_ hk => ⟨hk.2.1, hk.2.2.1, hk.2.2.2⟩)) (below_size HB.out))
  obtain ⟨A32, c33, rfl⟩ := Kd.R_slice h6_w20
  have O34 := Aside0.mk (show Kd.R (Kd.int .i64) 3 w20 w.heap.size (Seg w8.heap.size w20.heap.size w20 [3]) (.slice A32 r27.length c33) r27 from Kd.R_lower (Kd.R_mono (Kd.R_bound h6_w20) (fun k_ hk => ⟨hk.2.1, hk.2.2.1, hk.2.2.2⟩)) (below_size HB.out))
  have Z35 := Aside0.mk (below_size hb)
  replace HB := Aside0.mk (below_step HB.out hb)
  clear hb h0_w20 h6_w20
  go_wp2_with fail
  refine (laws_toAskedS.calls k A1 c1 l1 r37 w20 (Kd.C_below HR1.out HB.out) HC1.out e38.out).mono ?_
  rintro e w36 ⟨v0_w36, rfl, h0_w36, hb⟩
  replace BK1 := Aside0.mk (blk_below BK1.out hb)
  replace O31 := Aside0.mk (Kd.S_below O31.out hb)
  replace O34 := Aside0.mk (Kd.R_below O34.out hb)
  obtain ⟨A39, c40, rfl⟩ := Kd.R_slice h0_w36
  have O41 := Aside0.mk (show Kd.R k74 74 w36 w.heap.size (Seg w20.heap.size w36.heap.size w36 [74]) (.slice A39 r37.length c40) r37 from Kd.R_lower (Kd.R_mono (Kd.R_bound h0_w36) (fun k_ hk => ⟨hk.2.1, hk.2.2.1, hk.2.2.2⟩)) (below_size HB.out))
  have Z42 := Aside0.mk (below_size hb)
  replace HB := Aside0.mk (below_step HB.out hb)
  clear hb h0_w36
  go_wp2_with fail
  refine (spec_GiveAll.calls k A29 c30 r21 r22 r23 r24 r25 r26 A32 c33 r27 A39 c40 r37 r44 r45 r46 r47 r48 r49 r50 r51 r52 w36 (Kd.S_reads' O31.out).2.2 (Kd.S_reads' O31.out).2.1 (Kd.R_reads' O34.out).2.2 (Kd.R_reads' O34.out).2.1 (Kd.R_reads' O41.out).2.2 (Kd.R_reads' O41.out).2.1 e53.out).mono ?_
  rintro e w43 ⟨v0_w43, v6_w43, v7_w43, rfl, h0_w43, h6_w43, h7_w43, hb⟩
  replace BK1 := Aside0.mk (blk_below BK1.out hb)
  replace O31 := Aside0.mk (Kd.S_below O31.out hb)
  replace O34 := Aside0.mk (Kd.R_below O34.out hb)
  replace O41 := Aside0.mk (Kd.R_below O41.out hb)
  obtain ⟨A54, c55, rfl⟩ := Kd.S_slice h0_w43
  have O56 := Aside0.mk (show Kd.S (Kd.slice 5 (Kd.int .u8)) 29 w43 w.heap.size (Seg w36.heap.size w43.heap.size w43 [29, 5]) (.slice A54 r44.length c55) r44 from Kd.S_lower (Kd.S_mono (Kd.S_bound h0_w43) (fun k_ hk => ⟨hk.2.1, hk.2.2.1, hk.2.2.2⟩)) (below_size HB.out))
  obtain ⟨A57, c58, rfl⟩ := Kd.R_slice h6_w43
  have O59 := Aside0.mk (show Kd.R (Kd.int .i64) 3 w43 w.heap.size (Seg w36.heap.size w43.heap.size w43 [3]) (.slice A57 r50.length c58) r50 from Kd.R_lower (Kd.R_mono (Kd.R_bound h6_w43) (fun k_ hk => ⟨hk.2.1, hk.2.2.1, hk.2.2.2⟩)) (below_size HB.out))
  obtain ⟨A60, c61, rfl⟩ := Kd.R_slice h7_w43
  have O62 := Aside0.mk (show Kd.R k32 32 w43 w.heap.size (Seg w36.heap.size w43.heap.size w43 [32]) (.slice A60 r51.length c61) r51 from Kd.R_lower (Kd.R_mono (Kd.R_bound h7_w43) (fun k_ hk => ⟨hk.2.1, hk.2.2.1, hk.2.2.2⟩)) (below_size HB.out))
  have Z63 := Aside0.mk (below_size hb)
  replace HB := Aside0.mk (below_step HB.out hb)
  clear hb h0_w43 h6_w43 h7_w43
  clear O31 O34 O41
  have hz64 : w43.cell? ⟨w.heap.size, 0, none⟩ = some (.slice A0_0 l0_0.length c0_0) := (blk_cell BK1.out 0).trans rfl
  have hz65 : w43.cell? ⟨w.heap.size, 1, none⟩ = some (.int .i64 a0_1) := (blk_cell BK1.out 1).trans rfl
  have hz66 : w43.cell? ⟨w.heap.size, 2, none⟩ = some (.int .i64 a0_2) := (blk_cell BK1.out 2).trans rfl
  have hz67 : w43.cell? ⟨w.heap.size, 3, none⟩ = some (.int .i64 a0_3) := (blk_cell BK1.out 3).trans rfl
  have hz68 : w43.cell? ⟨w.heap.size, 4, none⟩ = some (.int .i64 a0_4) := (blk_cell BK1.out 4).trans rfl
  have hz69 : w43.cell? ⟨w.heap.size, 5, none⟩ = some (.int .i64 a0_5) := (blk_cell BK1.out 5).trans rfl
  have hz70 : w43.cell? ⟨w.heap.size, 6, none⟩ = some (.slice A0_6 l0_6.length c0_6) := (blk_cell BK1.out 6).trans rfl
  have hl71 : w.heap.size < w43.heap.size := blk_lt BK1.out
  go_wp2_with fail
  clear hz64 hz65 hz66 hz67 hz68 hz69 hz70 hl71
  have HA73 := Below.alloc (Below.refl w43.heap.size w43) (Nat.le_refl _) (.cells #[.slice A54 r44.length c55, .int .i64 r45, .int .i64 r46, .int .i64 r47, .int .i64 r48, .int .i64 r49, .slice A57 r50.length c58] 70)
  replace BK1 := Aside0.mk (blk_below BK1.out HA73)
  replace O56 := Aside0.mk (Kd.S_below O56.out HA73)
  replace O59 := Aside0.mk (Kd.R_below O59.out HA73)
  replace O62 := Aside0.mk (Kd.R_below O62.out HA73)
  have BK72 := Aside0.mk (heap_alloc_new w43 (.cells #[.slice A54 r44.length c55, .int .i64 r45, .int .i64 r46, .int .i64 r47, .int .i64 r48, .int .i64 r49, .slice A57 r50.length c58] 70))
  replace HB := Aside0.mk (below_step HB.out HA73)
  have Z74 := Aside0.mk (show w43.heap.size < (w43.alloc (.cells #[.slice A54 r44.length c55, .int .i64 r45, .int .i64 r46, .int .i64 r47, .int .i64 r48, .int .i64 r49, .slice A57 r50.length c58] 70)).heap.size by simp)
  clear HA73
  refine (laws_toArena.calls k A0_0 c0_0 l0_0 a0_1 a0_2 a0_3 a0_4 a0_5 A0_6 c0_6 l0_6 r21 r22 r23 r24 r25 r26 r27 (w43.alloc (.cells #[.slice A54 r44.length c55, .int .i64 r45, .int .i64 r46, .int .i64 r47, .int .i64 r48, .int .i64 r49, .slice A57 r50.length c58] 70)) (Kd.C_below HR0_0.out HB.out) HC0_0.out (Kd.C_below HR0_6.out HB.out) HC0_6.out e28.out).mono ?_
  rintro e w75 ⟨v0_w75, v6_w75, rfl, h0_w75, h6_w75, hb⟩
  replace BK1 := Aside0.mk (blk_below BK1.out hb)
  replace O56 := Aside0.mk (Kd.S_below O56.out hb)
  replace O59 := Aside0.mk (Kd.R_below O59.out hb)
  replace O62 := Aside0.mk (Kd.R_below O62.out hb)
  replace BK72 := Aside0.mk (blk_below BK72.out hb)
  obtain ⟨A76, c77, rfl⟩ := Kd.S_slice h0_w75
  have O78 := Aside0.mk (show Kd.S (Kd.slice 5 (Kd.int .u8)) 29 w75 w.heap.size (Seg (w43.heap.size + 1) w75.heap.size w75 [29, 5]) (.slice A76 r21.length c77) r21 from Kd.S_lower (Kd.S_mono (Kd.S_bound h0_w75) (fun k_ hk => ⟨(by simpa using hk.2.1), hk.2.2.1, hk.2.2.2⟩)) (below_size HB.out))
  obtain ⟨A79, c80, rfl⟩ := Kd.R_slice h6_w75
  have O81 := Aside0.mk (show Kd.R (Kd.int .i64) 3 w75 w.heap.size (Seg (w43.heap.size + 1) w75.heap.size w75 [3]) (.slice A79 r27.length c80) r27 from Kd.R_lower (Kd.R_mono (Kd.R_bound h6_w75) (fun k_ hk => ⟨(by simpa using hk.2.1), hk.2.2.1, hk.2.2.2⟩)) (below_size HB.out))
  have Z82 := Aside0.mk (below_size hb)
  replace HB := Aside0.mk (below_step HB.out hb)
  clear hb h0_w75 h6_w75
  go_wp2_with fail
  have HA84 := Below.alloc (Below.refl w75.heap.size w75) (Nat.le_refl _) (.cells #[.slice A76 r21.length c77, .int .i64 r22, .int .i64 r23, .int .i64 r24, .int .i64 r25, .int .i64 r26, .slice A79 r27.length c80] 70)
  replace BK1 := Aside0.mk (blk_below BK1.out HA84)
  replace O56 := Aside0.mk (Kd.S_below O56.out HA84)
  replace O59 := Aside0.mk (Kd.R_below O59.out HA84)
  replace O62 := Aside0.mk (Kd.R_below O62.out HA84)
  replace BK72 := Aside0.mk (blk_below BK72.out HA84)
  replace O78 := Aside0.mk (Kd.S_below O78.out HA84)
  replace O81 := Aside0.mk (Kd.R_below O81.out HA84)
  have BK83 := Aside0.mk (heap_alloc_new w75 (.cells #[.slice A76 r21.length c77, .int .i64 r22, .int .i64 r23, .int .i64 r24, .int .i64 r25, .int .i64 r26, .slice A79 r27.length c80] 70))
  replace HB := Aside0.mk (below_step HB.out HA84)
  have Z85 := Aside0.mk (show w75.heap.size < (w75.alloc (.cells #[.slice A76 r21.length c77, .int .i64 r22, .int .i64 r23, .int .i64 r24, .int .i64 r25, .int .i64 r26, .slice A79 r27.length c80] 70)).heap.size by simp)
  clear HA84
  refine (laws_toAskedS.calls k A1 c1 l1 r37 (w75.alloc (.cells #[.slice A76 r21.length c77, .int .i64 r22, .int .i64 r23, .int .i64 r24, .int .i64 r25, .int .i64 r26, .slice A79 r27.length c80] 70)) (Kd.C_below HR1.out HB.out) HC1.out e38.out).mono ?_
  rintro e w86 ⟨v0_w86, rfl, h0_w86, hb⟩
  replace BK1 := Aside0.mk (blk_below BK1.out hb)
  replace O56 := Aside0.mk (Kd.S_below O56.out hb)
  replace O59 := Aside0.mk (Kd.R_below O59.out hb)
  replace O62 := Aside0.mk (Kd.R_below O62.out hb)
  replace BK72 := Aside0.mk (blk_below BK72.out hb)
  replace O78 := Aside0.mk (Kd.S_below O78.out hb)
  replace O81 := Aside0.mk (Kd.R_below O81.out hb)
  replace BK83 := Aside0.mk (blk_below BK83.out hb)
  obtain ⟨A87, c88, rfl⟩ := Kd.R_slice h0_w86
  have O89 := Aside0.mk (show Kd.R k74 74 w86 w.heap.size (Seg (w75.heap.size + 1) w86.heap.size w86 [74]) (.slice A87 r37.length c88) r37 from Kd.R_lower (Kd.R_mono (Kd.R_bound h0_w86) (fun k_ hk => ⟨(by simpa using hk.2.1), hk.2.2.1, hk.2.2.2⟩)) (below_size HB.out))
  have Z90 := Aside0.mk (below_size hb)
  replace HB := Aside0.mk (below_step HB.out hb)
  clear hb h0_w86
  have hz91 : w86.cell? ⟨w75.heap.size, 0, none⟩ = some (.slice A76 r21.length c77) := (blk_cell BK83.out 0).trans rfl
  have hz92 : w86.cell? ⟨w75.heap.size, 1, none⟩ = some (.int .i64 r22) := (blk_cell BK83.out 1).trans rfl
  have hz93 : w86.cell? ⟨w75.heap.size, 2, none⟩ = some (.int .i64 r23) := (blk_cell BK83.out 2).trans rfl
  have hz94 : w86.cell? ⟨w75.heap.size, 3, none⟩ = some (.int .i64 r24) := (blk_cell BK83.out 3).trans rfl
  have hz95 : w86.cell? ⟨w75.heap.size, 4, none⟩ = some (.int .i64 r25) := (blk_cell BK83.out 4).trans rfl
  have hz96 : w86.cell? ⟨w75.heap.size, 5, none⟩ = some (.int .i64 r26) := (blk_cell BK83.out 5).trans rfl
  have hz97 : w86.cell? ⟨w75.heap.size, 6, none⟩ = some (.slice A79 r27.length c80) := (blk_cell BK83.out 6).trans rfl
  have hl98 : w75.heap.size < w86.heap.size := blk_lt BK83.out
  go_wp2_with fail
  clear hz91 hz92 hz93 hz94 hz95 hz96 hz97 hl98
  refine (impl_GiveAll.calls k A76 c77 r21 r22 r23 r24 r25 r26 A79 c80 r27 A87 c88 r37 r44 r45 r46 r47 r48 r49 r50 r51 r52 w86 (Kd.S_reads' O78.out).2.2 (Kd.S_reads' O78.out).2.1 (Kd.R_reads' O81.out).2.2 (Kd.R_reads' O81.out).2.1 (Kd.R_reads' O89.out).2.2 (Kd.R_reads' O89.out).2.1 e100.out).mono ?_
  rintro e w99 ⟨v0_w99, v6_w99, v7_w99, rfl, h0_w99, h6_w99, h7_w99, hb⟩
  replace BK1 := Aside0.mk (blk_below BK1.out hb)
  replace O56 := Aside0.mk (Kd.S_below O56.out hb)
  replace O59 := Aside0.mk (Kd.R_below O59.out hb)
  replace O62 := Aside0.mk (Kd.R_below O62.out hb)
  replace BK72 := Aside0.mk (blk_below BK72.out hb)
  replace O78 := Aside0.mk (Kd.S_below O78.out hb)
  replace O81 := Aside0.mk (Kd.R_below O81.out hb)
  replace BK83 := Aside0.mk (blk_below BK83.out hb)
  replace O89 := Aside0.mk (Kd.R_below O89.out hb)
  obtain ⟨A101, c102, rfl⟩ := Kd.S_slice h0_w99
  have O103 := Aside0.mk (show Kd.S (Kd.slice 5 (Kd.int .u8)) 29 w99 w.heap.size (Seg w86.heap.size w99.heap.size w99 [29, 5]) (.slice A101 r44.length c102) r44 from Kd.S_lower (Kd.S_mono (Kd.S_bound h0_w99) (fun k_ hk => ⟨hk.2.1, hk.2.2.1, hk.2.2.2⟩)) (below_size HB.out))
  obtain ⟨A104, c105, rfl⟩ := Kd.R_slice h6_w99
  have O106 := Aside0.mk (show Kd.R (Kd.int .i64) 3 w99 w.heap.size (Seg w86.heap.size w99.heap.size w99 [3]) (.slice A104 r50.length c105) r50 from Kd.R_lower (Kd.R_mono (Kd.R_bound h6_w99) (fun k_ hk => ⟨hk.2.1, hk.2.2.1, hk.2.2.2⟩)) (below_size HB.out))
  obtain ⟨A107, c108, rfl⟩ := Kd.R_slice h7_w99
  have O109 := Aside0.mk (show Kd.R k32 32 w99 w.heap.size (Seg w86.heap.size w99.heap.size w99 [32]) (.slice A107 r51.length c108) r51 from Kd.R_lower (Kd.R_mono (Kd.R_bound h7_w99) (fun k_ hk => ⟨hk.2.1, hk.2.2.1, hk.2.2.2⟩)) (below_size HB.out))
  have Z110 := Aside0.mk (below_size hb)
  replace HB := Aside0.mk (below_step HB.out hb)
  clear hb h0_w99 h6_w99 h7_w99
  have hz111 : w99.cell? ⟨w43.heap.size, 0, none⟩ = some (.slice A54 r44.length c55) := (blk_cell BK72.out 0).trans rfl
  have hz112 : w99.cell? ⟨w43.heap.size, 1, none⟩ = some (.int .i64 r45) := (blk_cell BK72.out 1).trans rfl
  have hz113 : w99.cell? ⟨w43.heap.size, 2, none⟩ = some (.int .i64 r46) := (blk_cell BK72.out 2).trans rfl
  have hz114 : w99.cell? ⟨w43.heap.size, 3, none⟩ = some (.int .i64 r47) := (blk_cell BK72.out 3).trans rfl
  have hz115 : w99.cell? ⟨w43.heap.size, 4, none⟩ = some (.int .i64 r48) := (blk_cell BK72.out 4).trans rfl
  have hz116 : w99.cell? ⟨w43.heap.size, 5, none⟩ = some (.int .i64 r49) := (blk_cell BK72.out 5).trans rfl
  have hz117 : w99.cell? ⟨w43.heap.size, 6, none⟩ = some (.slice A57 r50.length c58) := (blk_cell BK72.out 6).trans rfl
  have hl118 : w43.heap.size < w99.heap.size := blk_lt BK72.out
  go_wp2_with fail
  clear hz111 hz112 hz113 hz114 hz115 hz116 hz117 hl118
  have HA120 := Below.alloc (Below.refl w99.heap.size w99) (Nat.le_refl _) (.cells #[.slice A101 r44.length c102, .int .i64 r45, .int .i64 r46, .int .i64 r47, .int .i64 r48, .int .i64 r49, .slice A104 r50.length c105] 70)
  replace BK1 := Aside0.mk (blk_below BK1.out HA120)
  replace O56 := Aside0.mk (Kd.S_below O56.out HA120)
  replace O59 := Aside0.mk (Kd.R_below O59.out HA120)
  replace O62 := Aside0.mk (Kd.R_below O62.out HA120)
  replace BK72 := Aside0.mk (blk_below BK72.out HA120)
  replace O78 := Aside0.mk (Kd.S_below O78.out HA120)
  replace O81 := Aside0.mk (Kd.R_below O81.out HA120)
  replace BK83 := Aside0.mk (blk_below BK83.out HA120)
  replace O89 := Aside0.mk (Kd.R_below O89.out HA120)
  replace O103 := Aside0.mk (Kd.S_below O103.out HA120)
  replace O106 := Aside0.mk (Kd.R_below O106.out HA120)
  replace O109 := Aside0.mk (Kd.R_below O109.out HA120)
  have BK119 := Aside0.mk (heap_alloc_new w99 (.cells #[.slice A101 r44.length c102, .int .i64 r45, .int .i64 r46, .int .i64 r47, .int .i64 r48, .int .i64 r49, .slice A104 r50.length c105] 70))
  replace HB := Aside0.mk (below_step HB.out HA120)
  have Z121 := Aside0.mk (show w99.heap.size < (w99.alloc (.cells #[.slice A101 r44.length c102, .int .i64 r45, .int .i64 r46, .int .i64 r47, .int .i64 r48, .int .i64 r49, .slice A104 r50.length c105] 70)).heap.size by simp)
  clear HA120
  refine (laws_eqArena.calls k A101 c102 r44 r45 r46 r47 r48 r49 A104 c105 r50 A54 c55 r44 r45 r46 r47 r48 r49 A57 c58 r50 true (w99.alloc (.cells #[.slice A101 r44.length c102, .int .i64 r45, .int .i64 r46, .int .i64 r47, .int .i64 r48, .int .i64 r49, .slice A104 r50.length c105] 70)) (Kd.S_reads' O103.out).2.2 (Kd.S_reads' O103.out).2.1 (Kd.R_reads' O106.out).2.2 (Kd.R_reads' O106.out).2.1 (Kd.S_reads' O56.out).2.2 (Kd.S_reads' O56.out).2.1 (Kd.R_reads' O59.out).2.2 (Kd.R_reads' O59.out).2.1 e123.out).mono ?_
  rintro e w122 ⟨rfl, hb⟩
  replace BK1 := Aside0.mk (blk_below BK1.out hb)
  replace O56 := Aside0.mk (Kd.S_below O56.out hb)
  replace O59 := Aside0.mk (Kd.R_below O59.out hb)
  replace O62 := Aside0.mk (Kd.R_below O62.out hb)
  replace BK72 := Aside0.mk (blk_below BK72.out hb)
  replace O78 := Aside0.mk (Kd.S_below O78.out hb)
  replace O81 := Aside0.mk (Kd.R_below O81.out hb)
  replace BK83 := Aside0.mk (blk_below BK83.out hb)
  replace O89 := Aside0.mk (Kd.R_below O89.out hb)
  replace O103 := Aside0.mk (Kd.S_below O103.out hb)
  replace O106 := Aside0.mk (Kd.R_below O106.out hb)
  replace O109 := Aside0.mk (Kd.R_below O109.out hb)
  replace BK119 := Aside0.mk (blk_below BK119.out hb)
  have Z124 := Aside0.mk (below_size hb)
  replace HB := Aside0.mk (below_step HB.out hb)
  clear hb 
  go_wp2_with fail
  refine (laws_eqWindowS.calls k A107 c108 r51 A60 c61 r51 true w122 (Kd.R_reads' O109.out).2.2 (Kd.R_reads' O109.out).2.1 (Kd.R_reads' O62.out).2.2 (Kd.R_reads' O62.out).2.1 e126.out).mono ?_
  rintro e w125 ⟨rfl, hb⟩
  replace BK1 := Aside0.mk (blk_below BK1.out hb)
  replace O56 := Aside0.mk (Kd.S_below O56.out hb)
  replace O59 := Aside0.mk (Kd.R_below O59.out hb)
  replace O62 := Aside0.mk (Kd.R_below O62.out hb)
  replace BK72 := Aside0.mk (blk_below BK72.out hb)
  replace O78 := Aside0.mk (Kd.S_below O78.out hb)
  replace O81 := Aside0.mk (Kd.R_below O81.out hb)
  replace BK83 := Aside0.mk (blk_below BK83.out hb)
  replace O89 := Aside0.mk (Kd.R_below O89.out hb)
  replace O103 := Aside0.mk (Kd.S_below O103.out hb)
  replace O106 := Aside0.mk (Kd.R_below O106.out hb)
  replace O109 := Aside0.mk (Kd.R_below O109.out hb)
  replace BK119 := Aside0.mk (blk_below BK119.out hb)
  have Z127 := Aside0.mk (below_size hb)
  replace HB := Aside0.mk (below_step HB.out hb)
  clear hb 
  go_wp2_with fail
  refine start_ (n := 5) (S := fun w' => w'.cell? ⟨w75.heap.size, 0, none⟩ = some (.slice A76 r21.length c77) ∧ w'.cell? ⟨w75.heap.size, 1, none⟩ = some (.int .i64 r22) ∧ w'.cell? ⟨w75.heap.size, 2, none⟩ = some (.int .i64 r23) ∧ w'.cell? ⟨w75.heap.size, 3, none⟩ = some (.int .i64 r24) ∧ w'.cell? ⟨w75.heap.size, 4, none⟩ = some (.int .i64 r25) ∧ w'.cell? ⟨w75.heap.size, 5, none⟩ = some (.int .i64 r26) ∧ w'.cell? ⟨w75.heap.size, 6, none⟩ = some (.slice A79 r27.length c80) ∧ w'.cell? ⟨w.heap.size, 0, none⟩ = some (.slice A0_0 l0_0.length c0_0) ∧ w'.cell? ⟨w.heap.size, 1, none⟩ = some (.int .i64 a0_1) ∧ w'.cell? ⟨w.heap.size, 2, none⟩ = some (.int .i64 a0_2) ∧ w'.cell? ⟨w.heap.size, 3, none⟩ = some (.int .i64 a0_3) ∧ w'.cell? ⟨w.heap.size, 4, none⟩ = some (.int .i64 a0_4) ∧ w'.cell? ⟨w.heap.size, 5, none⟩ = some (.int .i64 a0_5) ∧ w'.cell? ⟨w.heap.size, 6, none⟩ = some (.slice A0_6 l0_6.length c0_6)) (ds := []) #[false, false, false, false, false] (by kernel_rfl) rfl rfl ⟨(blk_cell BK83.out 0).trans rfl, (blk_cell BK83.out 1).trans rfl, (blk_cell BK83.out 2).trans rfl, (blk_cell BK83.out 3).trans rfl, (blk_cell BK83.out 4).trans rfl, (blk_cell BK83.out 5).trans rfl, (blk_cell BK83.out 6).trans rfl, (blk_cell BK1.out 0).trans rfl, (blk_cell BK1.out 1).trans rfl, (blk_cell BK1.out 2).trans rfl, (blk_cell BK1.out 3).trans rfl, (blk_cell BK1.out 4).trans rfl, (blk_cell BK1.out 5).trans rfl, (blk_cell BK1.out 6).trans rfl⟩ (fun hHeld => ?_)
  replace BK1 := Aside0.mk (blk_drew BK1.out)
  replace O56 := Aside0.mk (Kd.S_drew O56.out)
  replace O59 := Aside0.mk (Kd.R_drew O59.out)
  replace O62 := Aside0.mk (Kd.R_drew O62.out)
  replace BK72 := Aside0.mk (blk_drew BK72.out)
  replace O78 := Aside0.mk (Kd.S_drew O78.out)
  replace O81 := Aside0.mk (Kd.R_drew O81.out)
  replace BK83 := Aside0.mk (blk_drew BK83.out)
  replace O89 := Aside0.mk (Kd.R_drew O89.out)
  replace O103 := Aside0.mk (Kd.S_drew O103.out)
  replace O106 := Aside0.mk (Kd.R_drew O106.out)
  replace O109 := Aside0.mk (Kd.R_drew O109.out)
  replace BK119 := Aside0.mk (blk_drew BK119.out)
  replace HB := Aside0.mk (below_drew1 HB.out)
  have Z129 := Aside0.mk (show w125.heap.size ≤ w125.drew.heap.size from Nat.le_refl _)
  generalize w125.drew = w128 at BK1 O56 O59 O62 BK72 O78 O81 BK83 O89 O103 O106 O109 BK119 HB Z129 hHeld ⊢
  refine take_ (i := 0) (N := some 65) (v := ?_) (a' := ?_) #[true, false, false, false, false] rfl rfl (by kernel_rfl) (fun _ _ _ h => h) (Or.inl ⟨by rfl, ?_⟩) hHeld ?_ ?_
  rotate_left
  · rintro w' ⟨s0, s1, s2, s3, s4, s5, s6, s7, s8, s9, s10, s11, s12, s13⟩
    go_simp
    with_reducible rfl
  rotate_left
  · simp only [Act.put, List.setIfInBounds_toArray, List.set_cons_zero, List.set_cons_succ, i64_w, i32_w]
    rfl
  refine take_ (i := 1) (N := some 66) (v := ?_) (a' := ?_) #[true, true, false, false, false] rfl rfl (by kernel_rfl) (fun _ _ _ h => h) (Or.inl ⟨by rfl, ?_⟩) hHeld ?_ ?_
  rotate_left
  · rintro w' ⟨s0, s1, s2, s3, s4, s5, s6, s7, s8, s9, s10, s11, s12, s13⟩
    go_simp
    with_reducible rfl
  rotate_left
  · simp only [Act.put, List.setIfInBounds_toArray, List.set_cons_zero, List.set_cons_succ, i64_w, i32_w]
    rfl
  refine one_ (i := 2) (N := some 67) #[true, true, true, false, false] rfl rfl (by kernel_rfl) (by decide) (fun K hK => ?_)
  refine goes_ Try.func37 (by kernel_rfl) rfl #[.agg #[.slice A0_0 l0_0.length c0_0, .int .i64 a0_1, .int .i64 a0_2, .int .i64 a0_3, .int .i64 a0_4, .int .i64 a0_5, .slice A0_6 l0_6.length c0_6]] (by rfl) rfl rfl (by (try simp only [List.map_toArray, List.map_cons, List.map_nil]); first | done | rfl) ?_
  with_reducible refine (laws_toArena.calls k A0_0 c0_0 l0_0 a0_1 a0_2 a0_3 a0_4 a0_5 A0_6 c0_6 l0_6 r21 r22 r23 r24 r25 r26 r27 w128 (Kd.C_below HR0_0.out HB.out) HC0_0.out (Kd.C_below HR0_6.out HB.out) HC0_6.out e28.out).mono ?_
  rintro e w130 ⟨v0_w130, v6_w130, rfl, h0_w130, h6_w130, hb⟩
  refine ⟨_, rfl, ?_⟩
  replace BK1 := Aside0.mk (blk_below BK1.out hb)
  replace O56 := Aside0.mk (Kd.S_below O56.out hb)
  replace O59 := Aside0.mk (Kd.R_below O59.out hb)
  replace O62 := Aside0.mk (Kd.R_below O62.out hb)
  replace BK72 := Aside0.mk (blk_below BK72.out hb)
  replace O78 := Aside0.mk (Kd.S_below O78.out hb)
  replace O81 := Aside0.mk (Kd.R_below O81.out hb)
  replace BK83 := Aside0.mk (blk_below BK83.out hb)
  replace O89 := Aside0.mk (Kd.R_below O89.out hb)
  replace O103 := Aside0.mk (Kd.S_below O103.out hb)
  replace O106 := Aside0.mk (Kd.R_below O106.out hb)
  replace O109 := Aside0.mk (Kd.R_below O109.out hb)
  replace BK119 := Aside0.mk (blk_below BK119.out hb)
  obtain ⟨A131, c132, rfl⟩ := Kd.S_slice h0_w130
  have O133 := Aside0.mk (show Kd.S (Kd.slice 5 (Kd.int .u8)) 29 w130 w.heap.size (Seg w128.heap.size w130.heap.size w130 [29, 5]) (.slice A131 r21.length c132) r21 from Kd.S_lower (Kd.S_mono (Kd.S_bound h0_w130) (fun k_ hk => ⟨hk.2.1, hk.2.2.1, hk.2.2.2⟩)) (below_size HB.out))
  obtain ⟨A134, c135, rfl⟩ := Kd.R_slice h6_w130
  have O136 := Aside0.mk (show Kd.R (Kd.int .i64) 3 w130 w.heap.size (Seg w128.heap.size w130.heap.size w130 [3]) (.slice A134 r27.length c135) r27 from Kd.R_lower (Kd.R_mono (Kd.R_bound h6_w130) (fun k_ hk => ⟨hk.2.1, hk.2.2.1, hk.2.2.2⟩)) (below_size HB.out))
  have Z137 := Aside0.mk (below_size hb)
  replace HB := Aside0.mk (below_step HB.out hb)
  clear hb h0_w130 h6_w130
  refine hK.out _ _ ⟨(blk_cell BK83.out 0).trans rfl, (blk_cell BK83.out 1).trans rfl, (blk_cell BK83.out 2).trans rfl, (blk_cell BK83.out 3).trans rfl, (blk_cell BK83.out 4).trans rfl, (blk_cell BK83.out 5).trans rfl, (blk_cell BK83.out 6).trans rfl, (blk_cell BK1.out 0).trans rfl, (blk_cell BK1.out 1).trans rfl, (blk_cell BK1.out 2).trans rfl, (blk_cell BK1.out 3).trans rfl, (blk_cell BK1.out 4).trans rfl, (blk_cell BK1.out 5).trans rfl, (blk_cell BK1.out 6).trans rfl⟩ (fun hHeld => ?_)
  clear hK K
  refine norm_ (a' := ?_) ?_ ?_
  rotate_left
  · show Act.put _ (some 67) _ = _
    simp only [Act.put, List.setIfInBounds_toArray, List.set_cons_zero, List.set_cons_succ, i64_w, i32_w]
    rfl
  refine one_ (i := 3) (N := some 68) #[true, true, true, true, false] rfl rfl (by kernel_rfl) (by decide) (fun K hK => ?_)
  refine goes_ Try.func40 (by kernel_rfl) rfl #[.agg #[.slice A76 r21.length c77, .int .i64 r22, .int .i64 r23, .int .i64 r24, .int .i64 r25, .int .i64 r26, .slice A79 r27.length c80], .agg #[.slice A131 r21.length c132, .int .i64 r22, .int .i64 r23, .int .i64 r24, .int .i64 r25, .int .i64 r26, .slice A134 r27.length c135]] (by rfl) rfl rfl (by (try simp only [List.map_toArray, List.map_cons, List.map_nil]); first | done | rfl) ?_
  with_reducible refine (laws_eqArena.calls k A76 c77 r21 r22 r23 r24 r25 r26 A79 c80 r27 A131 c132 r21 r22 r23 r24 r25 r26 A134 c135 r27 true w130 (Kd.S_reads' O78.out).2.2 (Kd.S_reads' O78.out).2.1 (Kd.R_reads' O81.out).2.2 (Kd.R_reads' O81.out).2.1 (Kd.S_reads' O133.out).2.2 (Kd.S_reads' O133.out).2.1 (Kd.R_reads' O136.out).2.2 (Kd.R_reads' O136.out).2.1 e139.out).mono ?_
  rintro e w138 ⟨rfl, hb⟩
  refine ⟨_, rfl, ?_⟩
  replace BK1 := Aside0.mk (blk_below BK1.out hb)
  replace O56 := Aside0.mk (Kd.S_below O56.out hb)
  replace O59 := Aside0.mk (Kd.R_below O59.out hb)
  replace O62 := Aside0.mk (Kd.R_below O62.out hb)
  replace BK72 := Aside0.mk (blk_below BK72.out hb)
  replace O78 := Aside0.mk (Kd.S_below O78.out hb)
  replace O81 := Aside0.mk (Kd.R_below O81.out hb)
  replace BK83 := Aside0.mk (blk_below BK83.out hb)
  replace O89 := Aside0.mk (Kd.R_below O89.out hb)
  replace O103 := Aside0.mk (Kd.S_below O103.out hb)
  replace O106 := Aside0.mk (Kd.R_below O106.out hb)
  replace O109 := Aside0.mk (Kd.R_below O109.out hb)
  replace BK119 := Aside0.mk (blk_below BK119.out hb)
  replace O133 := Aside0.mk (Kd.S_below O133.out hb)
  replace O136 := Aside0.mk (Kd.R_below O136.out hb)
  have Z140 := Aside0.mk (below_size hb)
  replace HB := Aside0.mk (below_step HB.out hb)
  clear hb 
  refine hK.out _ _ ⟨(blk_cell BK83.out 0).trans rfl, (blk_cell BK83.out 1).trans rfl, (blk_cell BK83.out 2).trans rfl, (blk_cell BK83.out 3).trans rfl, (blk_cell BK83.out 4).trans rfl, (blk_cell BK83.out 5).trans rfl, (blk_cell BK83.out 6).trans rfl, (blk_cell BK1.out 0).trans rfl, (blk_cell BK1.out 1).trans rfl, (blk_cell BK1.out 2).trans rfl, (blk_cell BK1.out 3).trans rfl, (blk_cell BK1.out 4).trans rfl, (blk_cell BK1.out 5).trans rfl, (blk_cell BK1.out 6).trans rfl⟩ (fun hHeld => ?_)
  clear hK K
  refine norm_ (a' := ?_) ?_ ?_
  rotate_left
  · show Act.put _ (some 68) _ = _
    simp only [Act.put, List.setIfInBounds_toArray, List.set_cons_zero, List.set_cons_succ, i64_w, i32_w]
    rfl
  refine pure_ (i := 4) (N := some 69) (v := ?_) (a' := ?_) #[true, true, true, true, true] rfl rfl (by kernel_rfl) (fun _ _ _ h => h) (Or.inl ⟨by rfl, ?_⟩) ?_ ?_
  rotate_left
  · intro w'
    go_simp
    with_reducible rfl
  rotate_left
  · simp only [Act.put, List.setIfInBounds_toArray, List.set_cons_zero, List.set_cons_succ, i64_w, i32_w]
    rfl
  refine done_ (by kernel_rfl) ?_
  clear hHeld
  clear O133 O136
  go_wp2_with fail
  refine (laws_toAskedS.calls k A1 c1 l1 r37 w138 (Kd.C_below HR1.out HB.out) HC1.out e38.out).mono ?_
  rintro e w141 ⟨v0_w141, rfl, h0_w141, hb⟩
  replace BK1 := Aside0.mk (blk_below BK1.out hb)
  replace O56 := Aside0.mk (Kd.S_below O56.out hb)
  replace O59 := Aside0.mk (Kd.R_below O59.out hb)
  replace O62 := Aside0.mk (Kd.R_below O62.out hb)
  replace BK72 := Aside0.mk (blk_below BK72.out hb)
  replace O78 := Aside0.mk (Kd.S_below O78.out hb)
  replace O81 := Aside0.mk (Kd.R_below O81.out hb)
  replace BK83 := Aside0.mk (blk_below BK83.out hb)
  replace O89 := Aside0.mk (Kd.R_below O89.out hb)
  replace O103 := Aside0.mk (Kd.S_below O103.out hb)
  replace O106 := Aside0.mk (Kd.R_below O106.out hb)
  replace O109 := Aside0.mk (Kd.R_below O109.out hb)
  replace BK119 := Aside0.mk (blk_below BK119.out hb)
  obtain ⟨A142, c143, rfl⟩ := Kd.R_slice h0_w141
  have O144 := Aside0.mk (show Kd.R k74 74 w141 w.heap.size (Seg w138.heap.size w141.heap.size w141 [74]) (.slice A142 r37.length c143) r37 from Kd.R_lower (Kd.R_mono (Kd.R_bound h0_w141) (fun k_ hk => ⟨hk.2.1, hk.2.2.1, hk.2.2.2⟩)) (below_size HB.out))
  have Z145 := Aside0.mk (below_size hb)
  replace HB := Aside0.mk (below_step HB.out hb)
  clear hb h0_w141
  go_wp2_with fail
  refine (laws_eqAskedS.calls k A87 c88 r37 A142 c143 r37 true w141 (Kd.R_reads' O89.out).2.2 (Kd.R_reads' O89.out).2.1 (Kd.R_reads' O144.out).2.2 (Kd.R_reads' O144.out).2.1 e147.out).mono ?_
  rintro e w146 ⟨rfl, hb⟩
  replace BK1 := Aside0.mk (blk_below BK1.out hb)
  replace O56 := Aside0.mk (Kd.S_below O56.out hb)
  replace O59 := Aside0.mk (Kd.R_below O59.out hb)
  replace O62 := Aside0.mk (Kd.R_below O62.out hb)
  replace BK72 := Aside0.mk (blk_below BK72.out hb)
  replace O78 := Aside0.mk (Kd.S_below O78.out hb)
  replace O81 := Aside0.mk (Kd.R_below O81.out hb)
  replace BK83 := Aside0.mk (blk_below BK83.out hb)
  replace O89 := Aside0.mk (Kd.R_below O89.out hb)
  replace O103 := Aside0.mk (Kd.S_below O103.out hb)
  replace O106 := Aside0.mk (Kd.R_below O106.out hb)
  replace O109 := Aside0.mk (Kd.R_below O109.out hb)
  replace BK119 := Aside0.mk (blk_below BK119.out hb)
  replace O144 := Aside0.mk (Kd.R_below O144.out hb)
  have Z148 := Aside0.mk (below_size hb)
  replace HB := Aside0.mk (below_step HB.out hb)
  clear hb 
  clear O144
  have hz149 : w146.cell? ⟨w75.heap.size, 0, none⟩ = some (.slice A76 r21.length c77) := (blk_cell BK83.out 0).trans rfl
  have hz150 : w146.cell? ⟨w75.heap.size, 1, none⟩ = some (.int .i64 r22) := (blk_cell BK83.out 1).trans rfl
  have hz151 : w146.cell? ⟨w75.heap.size, 2, none⟩ = some (.int .i64 r23) := (blk_cell BK83.out 2).trans rfl
  have hz152 : w146.cell? ⟨w75.heap.size, 3, none⟩ = some (.int .i64 r24) := (blk_cell BK83.out 3).trans rfl
  have hz153 : w146.cell? ⟨w75.heap.size, 4, none⟩ = some (.int .i64 r25) := (blk_cell BK83.out 4).trans rfl
  have hz154 : w146.cell? ⟨w75.heap.size, 5, none⟩ = some (.int .i64 r26) := (blk_cell BK83.out 5).trans rfl
  have hz155 : w146.cell? ⟨w75.heap.size, 6, none⟩ = some (.slice A79 r27.length c80) := (blk_cell BK83.out 6).trans rfl
  have hl156 : w75.heap.size < w146.heap.size := blk_lt BK83.out
  go_wp2_with fail
  clear hz149 hz150 hz151 hz152 hz153 hz154 hz155 hl156
  refine (laws_markArena.calls k (Seg (w43.heap.size + 1) w75.heap.size w75 [29, 5]) _ r21 r22 r23 r24 r25 r26 (Seg (w43.heap.size + 1) w75.heap.size w75 [3]) _ r27 1 m158 x159 x160 w w146 HB.out O78.out O81.out (fun k_ h1 h2 => Ty_ne h1.2.2 h2.2.2 (by decide)) e161.out).mono ?_
  rintro e w157 ⟨rfl, h162, h163, hb, hk⟩
  replace BK1 := Aside0.mk (blk_kept BK1.out hk (fun hs => hs.elim (fun hq => (by have := hq.1; have := hq.2.1; have := Z3.out; have := Z7.out; have := Z11.out; have := Z35.out; have := Z42.out; have := Z63.out; have := Z74.out; have := Z82.out; have := Z85.out; have := Z90.out; have := Z110.out; have := Z121.out; have := Z124.out; have := Z127.out; have := Z129.out; have := Z137.out; have := Z140.out; have := Z145.out; have := Z148.out; omega)) (fun hs' => (by have := hs'.1; have := hs'.2.1; have := Z3.out; have := Z7.out; have := Z11.out; have := Z35.out; have := Z42.out; have := Z63.out; have := Z74.out; have := Z82.out; have := Z85.out; have := Z90.out; have := Z110.out; have := Z121.out; have := Z124.out; have := Z127.out; have := Z129.out; have := Z137.out; have := Z140.out; have := Z145.out; have := Z148.out; omega))))
  replace O56 := Aside0.mk (Kd.S_step O56.out (fun k_ hk_ hlt => hk.2 k_ hlt (fun hs => hs.elim (fun hq => (by have := hq.1; have := hq.2.1; have := hk_.1; have := hk_.2.1; have := Z3.out; have := Z7.out; have := Z11.out; have := Z35.out; have := Z42.out; have := Z63.out; have := Z74.out; have := Z82.out; have := Z85.out; have := Z90.out; have := Z110.out; have := Z121.out; have := Z124.out; have := Z127.out; have := Z129.out; have := Z137.out; have := Z140.out; have := Z145.out; have := Z148.out;  omega)) (fun hs' => (by have := hs'.1; have := hs'.2.1; have := hk_.1; have := hk_.2.1; have := Z3.out; have := Z7.out; have := Z11.out; have := Z35.out; have := Z42.out; have := Z63.out; have := Z74.out; have := Z82.out; have := Z85.out; have := Z90.out; have := Z110.out; have := Z121.out; have := Z124.out; have := Z127.out; have := Z129.out; have := Z137.out; have := Z140.out; have := Z145.out; have := Z148.out;  omega)))))
  replace O59 := Aside0.mk (Kd.R_step O59.out (fun k_ hk_ hlt => hk.2 k_ hlt (fun hs => hs.elim (fun hq => (by have := hq.1; have := hq.2.1; have := hk_.1; have := hk_.2.1; have := Z3.out; have := Z7.out; have := Z11.out; have := Z35.out; have := Z42.out; have := Z63.out; have := Z74.out; have := Z82.out; have := Z85.out; have := Z90.out; have := Z110.out; have := Z121.out; have := Z124.out; have := Z127.out; have := Z129.out; have := Z137.out; have := Z140.out; have := Z145.out; have := Z148.out;  omega)) (fun hs' => (by have := hs'.1; have := hs'.2.1; have := hk_.1; have := hk_.2.1; have := Z3.out; have := Z7.out; have := Z11.out; have := Z35.out; have := Z42.out; have := Z63.out; have := Z74.out; have := Z82.out; have := Z85.out; have := Z90.out; have := Z110.out; have := Z121.out; have := Z124.out; have := Z127.out; have := Z129.out; have := Z137.out; have := Z140.out; have := Z145.out; have := Z148.out;  omega)))))
  replace O62 := Aside0.mk (Kd.R_step O62.out (fun k_ hk_ hlt => hk.2 k_ hlt (fun hs => hs.elim (fun hq => (by have := hq.1; have := hq.2.1; have := hk_.1; have := hk_.2.1; have := Z3.out; have := Z7.out; have := Z11.out; have := Z35.out; have := Z42.out; have := Z63.out; have := Z74.out; have := Z82.out; have := Z85.out; have := Z90.out; have := Z110.out; have := Z121.out; have := Z124.out; have := Z127.out; have := Z129.out; have := Z137.out; have := Z140.out; have := Z145.out; have := Z148.out;  omega)) (fun hs' => (by have := hs'.1; have := hs'.2.1; have := hk_.1; have := hk_.2.1; have := Z3.out; have := Z7.out; have := Z11.out; have := Z35.out; have := Z42.out; have := Z63.out; have := Z74.out; have := Z82.out; have := Z85.out; have := Z90.out; have := Z110.out; have := Z121.out; have := Z124.out; have := Z127.out; have := Z129.out; have := Z137.out; have := Z140.out; have := Z145.out; have := Z148.out;  omega)))))
  replace BK72 := Aside0.mk (blk_kept BK72.out hk (fun hs => hs.elim (fun hq => (by have := hq.1; have := hq.2.1; have := Z3.out; have := Z7.out; have := Z11.out; have := Z35.out; have := Z42.out; have := Z63.out; have := Z74.out; have := Z82.out; have := Z85.out; have := Z90.out; have := Z110.out; have := Z121.out; have := Z124.out; have := Z127.out; have := Z129.out; have := Z137.out; have := Z140.out; have := Z145.out; have := Z148.out; omega)) (fun hs' => (by have := hs'.1; have := hs'.2.1; have := Z3.out; have := Z7.out; have := Z11.out; have := Z35.out; have := Z42.out; have := Z63.out; have := Z74.out; have := Z82.out; have := Z85.out; have := Z90.out; have := Z110.out; have := Z121.out; have := Z124.out; have := Z127.out; have := Z129.out; have := Z137.out; have := Z140.out; have := Z145.out; have := Z148.out; omega))))
  replace BK83 := Aside0.mk (blk_kept BK83.out hk (fun hs => hs.elim (fun hq => (by have := hq.1; have := hq.2.1; have := Z3.out; have := Z7.out; have := Z11.out; have := Z35.out; have := Z42.out; have := Z63.out; have := Z74.out; have := Z82.out; have := Z85.out; have := Z90.out; have := Z110.out; have := Z121.out; have := Z124.out; have := Z127.out; have := Z129.out; have := Z137.out; have := Z140.out; have := Z145.out; have := Z148.out; omega)) (fun hs' => (by have := hs'.1; have := hs'.2.1; have := Z3.out; have := Z7.out; have := Z11.out; have := Z35.out; have := Z42.out; have := Z63.out; have := Z74.out; have := Z82.out; have := Z85.out; have := Z90.out; have := Z110.out; have := Z121.out; have := Z124.out; have := Z127.out; have := Z129.out; have := Z137.out; have := Z140.out; have := Z145.out; have := Z148.out; omega))))
  replace O89 := Aside0.mk (Kd.R_step O89.out (fun k_ hk_ hlt => hk.2 k_ hlt (fun hs => hs.elim (fun hq => (by have := hq.1; have := hq.2.1; have := hk_.1; have := hk_.2.1; have := Z3.out; have := Z7.out; have := Z11.out; have := Z35.out; have := Z42.out; have := Z63.out; have := Z74.out; have := Z82.out; have := Z85.out; have := Z90.out; have := Z110.out; have := Z121.out; have := Z124.out; have := Z127.out; have := Z129.out; have := Z137.out; have := Z140.out; have := Z145.out; have := Z148.out;  omega)) (fun hs' => (by have := hs'.1; have := hs'.2.1; have := hk_.1; have := hk_.2.1; have := Z3.out; have := Z7.out; have := Z11.out; have := Z35.out; have := Z42.out; have := Z63.out; have := Z74.out; have := Z82.out; have := Z85.out; have := Z90.out; have := Z110.out; have := Z121.out; have := Z124.out; have := Z127.out; have := Z129.out; have := Z137.out; have := Z140.out; have := Z145.out; have := Z148.out;  omega)))))
  replace O103 := Aside0.mk (Kd.S_step O103.out (fun k_ hk_ hlt => hk.2 k_ hlt (fun hs => hs.elim (fun hq => (by have := hq.1; have := hq.2.1; have := hk_.1; have := hk_.2.1; have := Z3.out; have := Z7.out; have := Z11.out; have := Z35.out; have := Z42.out; have := Z63.out; have := Z74.out; have := Z82.out; have := Z85.out; have := Z90.out; have := Z110.out; have := Z121.out; have := Z124.out; have := Z127.out; have := Z129.out; have := Z137.out; have := Z140.out; have := Z145.out; have := Z148.out;  omega)) (fun hs' => (by have := hs'.1; have := hs'.2.1; have := hk_.1; have := hk_.2.1; have := Z3.out; have := Z7.out; have := Z11.out; have := Z35.out; have := Z42.out; have := Z63.out; have := Z74.out; have := Z82.out; have := Z85.out; have := Z90.out; have := Z110.out; have := Z121.out; have := Z124.out; have := Z127.out; have := Z129.out; have := Z137.out; have := Z140.out; have := Z145.out; have := Z148.out;  omega)))))
  replace O106 := Aside0.mk (Kd.R_step O106.out (fun k_ hk_ hlt => hk.2 k_ hlt (fun hs => hs.elim (fun hq => (by have := hq.1; have := hq.2.1; have := hk_.1; have := hk_.2.1; have := Z3.out; have := Z7.out; have := Z11.out; have := Z35.out; have := Z42.out; have := Z63.out; have := Z74.out; have := Z82.out; have := Z85.out; have := Z90.out; have := Z110.out; have := Z121.out; have := Z124.out; have := Z127.out; have := Z129.out; have := Z137.out; have := Z140.out; have := Z145.out; have := Z148.out;  omega)) (fun hs' => (by have := hs'.1; have := hs'.2.1; have := hk_.1; have := hk_.2.1; have := Z3.out; have := Z7.out; have := Z11.out; have := Z35.out; have := Z42.out; have := Z63.out; have := Z74.out; have := Z82.out; have := Z85.out; have := Z90.out; have := Z110.out; have := Z121.out; have := Z124.out; have := Z127.out; have := Z129.out; have := Z137.out; have := Z140.out; have := Z145.out; have := Z148.out;  omega)))))
  replace O109 := Aside0.mk (Kd.R_step O109.out (fun k_ hk_ hlt => hk.2 k_ hlt (fun hs => hs.elim (fun hq => (by have := hq.1; have := hq.2.1; have := hk_.1; have := hk_.2.1; have := Z3.out; have := Z7.out; have := Z11.out; have := Z35.out; have := Z42.out; have := Z63.out; have := Z74.out; have := Z82.out; have := Z85.out; have := Z90.out; have := Z110.out; have := Z121.out; have := Z124.out; have := Z127.out; have := Z129.out; have := Z137.out; have := Z140.out; have := Z145.out; have := Z148.out;  omega)) (fun hs' => (by have := hs'.1; have := hs'.2.1; have := hk_.1; have := hk_.2.1; have := Z3.out; have := Z7.out; have := Z11.out; have := Z35.out; have := Z42.out; have := Z63.out; have := Z74.out; have := Z82.out; have := Z85.out; have := Z90.out; have := Z110.out; have := Z121.out; have := Z124.out; have := Z127.out; have := Z129.out; have := Z137.out; have := Z140.out; have := Z145.out; have := Z148.out;  omega)))))
  replace BK119 := Aside0.mk (blk_kept BK119.out hk (fun hs => hs.elim (fun hq => (by have := hq.1; have := hq.2.1; have := Z3.out; have := Z7.out; have := Z11.out; have := Z35.out; have := Z42.out; have := Z63.out; have := Z74.out; have := Z82.out; have := Z85.out; have := Z90.out; have := Z110.out; have := Z121.out; have := Z124.out; have := Z127.out; have := Z129.out; have := Z137.out; have := Z140.out; have := Z145.out; have := Z148.out; omega)) (fun hs' => (by have := hs'.1; have := hs'.2.1; have := Z3.out; have := Z7.out; have := Z11.out; have := Z35.out; have := Z42.out; have := Z63.out; have := Z74.out; have := Z82.out; have := Z85.out; have := Z90.out; have := Z110.out; have := Z121.out; have := Z124.out; have := Z127.out; have := Z129.out; have := Z137.out; have := Z140.out; have := Z145.out; have := Z148.out; omega))))
  replace O78 := Aside0.mk h162
  replace O81 := Aside0.mk h163
  replace HB := Aside0.mk hb
  have Z164 := Aside0.mk hk.1
  clear hb hk h162 h163
  have hn165 := (Kd.S_reads' O78.out).1
  have hn165_ := Aside0.mk hn165
  clear hn165
  have hn166 := (Kd.R_reads' O81.out).1
  have hn166_ := Aside0.mk hn166
  clear hn166
  clear O78 O81 BK83
  go_wp2_with fail
  refine (laws_markAskedS.calls k (Seg (w75.heap.size + 1) w86.heap.size w86 [74]) _ r37 m158 m168 x169 w w157 HB.out O89.out e170.out).mono ?_
  rintro e w167 ⟨rfl, h171, hb, hk⟩
  replace BK1 := Aside0.mk (blk_kept BK1.out hk (fun hs => (by have := hs.1; have := hs.2.1; have := Z3.out; have := Z7.out; have := Z11.out; have := Z35.out; have := Z42.out; have := Z63.out; have := Z74.out; have := Z82.out; have := Z85.out; have := Z90.out; have := Z110.out; have := Z121.out; have := Z124.out; have := Z127.out; have := Z129.out; have := Z137.out; have := Z140.out; have := Z145.out; have := Z148.out; have := Z164.out; omega)))
  replace O56 := Aside0.mk (Kd.S_step O56.out (fun k_ hk_ hlt => hk.2 k_ hlt (fun hs => (by have := hs.1; have := hs.2.1; have := hk_.1; have := hk_.2.1; have := Z3.out; have := Z7.out; have := Z11.out; have := Z35.out; have := Z42.out; have := Z63.out; have := Z74.out; have := Z82.out; have := Z85.out; have := Z90.out; have := Z110.out; have := Z121.out; have := Z124.out; have := Z127.out; have := Z129.out; have := Z137.out; have := Z140.out; have := Z145.out; have := Z148.out; have := Z164.out;  omega))))
  replace O59 := Aside0.mk (Kd.R_step O59.out (fun k_ hk_ hlt => hk.2 k_ hlt (fun hs => (by have := hs.1; have := hs.2.1; have := hk_.1; have := hk_.2.1; have := Z3.out; have := Z7.out; have := Z11.out; have := Z35.out; have := Z42.out; have := Z63.out; have := Z74.out; have := Z82.out; have := Z85.out; have := Z90.out; have := Z110.out; have := Z121.out; have := Z124.out; have := Z127.out; have := Z129.out; have := Z137.out; have := Z140.out; have := Z145.out; have := Z148.out; have := Z164.out;  omega))))
  replace O62 := Aside0.mk (Kd.R_step O62.out (fun k_ hk_ hlt => hk.2 k_ hlt (fun hs => (by have := hs.1; have := hs.2.1; have := hk_.1; have := hk_.2.1; have := Z3.out; have := Z7.out; have := Z11.out; have := Z35.out; have := Z42.out; have := Z63.out; have := Z74.out; have := Z82.out; have := Z85.out; have := Z90.out; have := Z110.out; have := Z121.out; have := Z124.out; have := Z127.out; have := Z129.out; have := Z137.out; have := Z140.out; have := Z145.out; have := Z148.out; have := Z164.out;  omega))))
  replace BK72 := Aside0.mk (blk_kept BK72.out hk (fun hs => (by have := hs.1; have := hs.2.1; have := Z3.out; have := Z7.out; have := Z11.out; have := Z35.out; have := Z42.out; have := Z63.out; have := Z74.out; have := Z82.out; have := Z85.out; have := Z90.out; have := Z110.out; have := Z121.out; have := Z124.out; have := Z127.out; have := Z129.out; have := Z137.out; have := Z140.out; have := Z145.out; have := Z148.out; have := Z164.out; omega)))
  replace O103 := Aside0.mk (Kd.S_step O103.out (fun k_ hk_ hlt => hk.2 k_ hlt (fun hs => (by have := hs.1; have := hs.2.1; have := hk_.1; have := hk_.2.1; have := Z3.out; have := Z7.out; have := Z11.out; have := Z35.out; have := Z42.out; have := Z63.out; have := Z74.out; have := Z82.out; have := Z85.out; have := Z90.out; have := Z110.out; have := Z121.out; have := Z124.out; have := Z127.out; have := Z129.out; have := Z137.out; have := Z140.out; have := Z145.out; have := Z148.out; have := Z164.out;  omega))))
  replace O106 := Aside0.mk (Kd.R_step O106.out (fun k_ hk_ hlt => hk.2 k_ hlt (fun hs => (by have := hs.1; have := hs.2.1; have := hk_.1; have := hk_.2.1; have := Z3.out; have := Z7.out; have := Z11.out; have := Z35.out; have := Z42.out; have := Z63.out; have := Z74.out; have := Z82.out; have := Z85.out; have := Z90.out; have := Z110.out; have := Z121.out; have := Z124.out; have := Z127.out; have := Z129.out; have := Z137.out; have := Z140.out; have := Z145.out; have := Z148.out; have := Z164.out;  omega))))
  replace O109 := Aside0.mk (Kd.R_step O109.out (fun k_ hk_ hlt => hk.2 k_ hlt (fun hs => (by have := hs.1; have := hs.2.1; have := hk_.1; have := hk_.2.1; have := Z3.out; have := Z7.out; have := Z11.out; have := Z35.out; have := Z42.out; have := Z63.out; have := Z74.out; have := Z82.out; have := Z85.out; have := Z90.out; have := Z110.out; have := Z121.out; have := Z124.out; have := Z127.out; have := Z129.out; have := Z137.out; have := Z140.out; have := Z145.out; have := Z148.out; have := Z164.out;  omega))))
  replace BK119 := Aside0.mk (blk_kept BK119.out hk (fun hs => (by have := hs.1; have := hs.2.1; have := Z3.out; have := Z7.out; have := Z11.out; have := Z35.out; have := Z42.out; have := Z63.out; have := Z74.out; have := Z82.out; have := Z85.out; have := Z90.out; have := Z110.out; have := Z121.out; have := Z124.out; have := Z127.out; have := Z129.out; have := Z137.out; have := Z140.out; have := Z145.out; have := Z148.out; have := Z164.out; omega)))
  replace O89 := Aside0.mk (Kd.R_flat (ok' := (Seg (w75.heap.size + 1) w86.heap.size w86 [74])) (fun h => h) h171 (fun k_ hk_ _ => O89.out.1 k_ (by simpa using hk_)))
  replace HB := Aside0.mk hb
  have Z172 := Aside0.mk hk.1
  clear hb hk h171
  have hn173 := (Kd.R_reads' O89.out).1
  have hn173_ := Aside0.mk hn173
  clear hn173
  clear O89
  have hz174 : w167.cell? ⟨w99.heap.size, 0, none⟩ = some (.slice A101 r44.length c102) := (blk_cell BK119.out 0).trans rfl
  have hz175 : w167.cell? ⟨w99.heap.size, 1, none⟩ = some (.int .i64 r45) := (blk_cell BK119.out 1).trans rfl
  have hz176 : w167.cell? ⟨w99.heap.size, 2, none⟩ = some (.int .i64 r46) := (blk_cell BK119.out 2).trans rfl
  have hz177 : w167.cell? ⟨w99.heap.size, 3, none⟩ = some (.int .i64 r47) := (blk_cell BK119.out 3).trans rfl
  have hz178 : w167.cell? ⟨w99.heap.size, 4, none⟩ = some (.int .i64 r48) := (blk_cell BK119.out 4).trans rfl
  have hz179 : w167.cell? ⟨w99.heap.size, 5, none⟩ = some (.int .i64 r49) := (blk_cell BK119.out 5).trans rfl
  have hz180 : w167.cell? ⟨w99.heap.size, 6, none⟩ = some (.slice A104 r50.length c105) := (blk_cell BK119.out 6).trans rfl
  have hl181 : w99.heap.size < w167.heap.size := blk_lt BK119.out
  have hz182 : w167.cell? ⟨w43.heap.size, 0, none⟩ = some (.slice A54 r44.length c55) := (blk_cell BK72.out 0).trans rfl
  have hz183 : w167.cell? ⟨w43.heap.size, 1, none⟩ = some (.int .i64 r45) := (blk_cell BK72.out 1).trans rfl
  have hz184 : w167.cell? ⟨w43.heap.size, 2, none⟩ = some (.int .i64 r46) := (blk_cell BK72.out 2).trans rfl
  have hz185 : w167.cell? ⟨w43.heap.size, 3, none⟩ = some (.int .i64 r47) := (blk_cell BK72.out 3).trans rfl
  have hz186 : w167.cell? ⟨w43.heap.size, 4, none⟩ = some (.int .i64 r48) := (blk_cell BK72.out 4).trans rfl
  have hz187 : w167.cell? ⟨w43.heap.size, 5, none⟩ = some (.int .i64 r49) := (blk_cell BK72.out 5).trans rfl
  have hz188 : w167.cell? ⟨w43.heap.size, 6, none⟩ = some (.slice A57 r50.length c58) := (blk_cell BK72.out 6).trans rfl
  have hl189 : w43.heap.size < w167.heap.size := blk_lt BK72.out
  go_wp2_with fail
  clear hz174 hz175 hz176 hz177 hz178 hz179 hz180 hl181 hz182 hz183 hz184 hz185 hz186 hz187 hz188 hl189
  have e191 := e123
  refine (laws_eqArena.calls k A101 c102 r44 r45 r46 r47 r48 r49 A104 c105 r50 A54 c55 r44 r45 r46 r47 r48 r49 A57 c58 r50 true w167 (Kd.S_reads' O103.out).2.2 (Kd.S_reads' O103.out).2.1 (Kd.R_reads' O106.out).2.2 (Kd.R_reads' O106.out).2.1 (Kd.S_reads' O56.out).2.2 (Kd.S_reads' O56.out).2.1 (Kd.R_reads' O59.out).2.2 (Kd.R_reads' O59.out).2.1 e191.out).mono ?_
  rintro e w190 ⟨rfl, hb⟩
  replace BK1 := Aside0.mk (blk_below BK1.out hb)
  replace O56 := Aside0.mk (Kd.S_below O56.out hb)
  replace O59 := Aside0.mk (Kd.R_below O59.out hb)
  replace O62 := Aside0.mk (Kd.R_below O62.out hb)
  replace BK72 := Aside0.mk (blk_below BK72.out hb)
  replace O103 := Aside0.mk (Kd.S_below O103.out hb)
  replace O106 := Aside0.mk (Kd.R_below O106.out hb)
  replace O109 := Aside0.mk (Kd.R_below O109.out hb)
  replace BK119 := Aside0.mk (blk_below BK119.out hb)
  have Z192 := Aside0.mk (below_size hb)
  replace HB := Aside0.mk (below_step HB.out hb)
  clear hb 
  go_wp2_with fail
  have e194 := e126
  refine (laws_eqWindowS.calls k A107 c108 r51 A60 c61 r51 true w190 (Kd.R_reads' O109.out).2.2 (Kd.R_reads' O109.out).2.1 (Kd.R_reads' O62.out).2.2 (Kd.R_reads' O62.out).2.1 e194.out).mono ?_
  rintro e w193 ⟨rfl, hb⟩
  replace BK1 := Aside0.mk (blk_below BK1.out hb)
  replace O56 := Aside0.mk (Kd.S_below O56.out hb)
  replace O59 := Aside0.mk (Kd.R_below O59.out hb)
  replace O62 := Aside0.mk (Kd.R_below O62.out hb)
  replace BK72 := Aside0.mk (blk_below BK72.out hb)
  replace O103 := Aside0.mk (Kd.S_below O103.out hb)
  replace O106 := Aside0.mk (Kd.R_below O106.out hb)
  replace O109 := Aside0.mk (Kd.R_below O109.out hb)
  replace BK119 := Aside0.mk (blk_below BK119.out hb)
  have Z195 := Aside0.mk (below_size hb)
  replace HB := Aside0.mk (below_step HB.out hb)
  clear hb 
  have hz196 : w193.cell? ⟨w99.heap.size, 0, none⟩ = some (.slice A101 r44.length c102) := (blk_cell BK119.out 0).trans rfl
  have hz197 : w193.cell? ⟨w99.heap.size, 1, none⟩ = some (.int .i64 r45) := (blk_cell BK119.out 1).trans rfl
  have hz198 : w193.cell? ⟨w99.heap.size, 2, none⟩ = some (.int .i64 r46) := (blk_cell BK119.out 2).trans rfl
  have hz199 : w193.cell? ⟨w99.heap.size, 3, none⟩ = some (.int .i64 r47) := (blk_cell BK119.out 3).trans rfl
  have hz200 : w193.cell? ⟨w99.heap.size, 4, none⟩ = some (.int .i64 r48) := (blk_cell BK119.out 4).trans rfl
  have hz201 : w193.cell? ⟨w99.heap.size, 5, none⟩ = some (.int .i64 r49) := (blk_cell BK119.out 5).trans rfl
  have hz202 : w193.cell? ⟨w99.heap.size, 6, none⟩ = some (.slice A104 r50.length c105) := (blk_cell BK119.out 6).trans rfl
  have hl203 : w99.heap.size < w193.heap.size := blk_lt BK119.out
  go_wp2_with fail
  clear hz196 hz197 hz198 hz199 hz200 hz201 hz202 hl203
  refine (laws_markArena.calls k (Seg w86.heap.size w99.heap.size w99 [29, 5]) _ r44 r45 r46 r47 r48 r49 (Seg w86.heap.size w99.heap.size w99 [3]) _ r50 1 m205 x206 x207 w w193 HB.out O103.out O106.out (fun k_ h1 h2 => Ty_ne h1.2.2 h2.2.2 (by decide)) e208.out).mono ?_
  rintro e w204 ⟨rfl, h209, h210, hb, hk⟩
  replace BK1 := Aside0.mk (blk_kept BK1.out hk (fun hs => hs.elim (fun hq => (by have := hq.1; have := hq.2.1; have := Z3.out; have := Z7.out; have := Z11.out; have := Z35.out; have := Z42.out; have := Z63.out; have := Z74.out; have := Z82.out; have := Z85.out; have := Z90.out; have := Z110.out; have := Z121.out; have := Z124.out; have := Z127.out; have := Z129.out; have := Z137.out; have := Z140.out; have := Z145.out; have := Z148.out; have := Z164.out; have := Z172.out; have := Z192.out; have := Z195.out; omega)) (fun hs' => (by have := hs'.1; have := hs'.2.1; have := Z3.out; have := Z7.out; have := Z11.out; have := Z35.out; have := Z42.out; have := Z63.out; have := Z74.out; have := Z82.out; have := Z85.out; have := Z90.out; have := Z110.out; have := Z121.out; have := Z124.out; have := Z127.out; have := Z129.out; have := Z137.out; have := Z140.out; have := Z145.out; have := Z148.out; have := Z164.out; have := Z172.out; have := Z192.out; have := Z195.out; omega))))
  replace O56 := Aside0.mk (Kd.S_step O56.out (fun k_ hk_ hlt => hk.2 k_ hlt (fun hs => hs.elim (fun hq => (by have := hq.1; have := hq.2.1; have := hk_.1; have := hk_.2.1; have := Z3.out; have := Z7.out; have := Z11.out; have := Z35.out; have := Z42.out; have := Z63.out; have := Z74.out; have := Z82.out; have := Z85.out; have := Z90.out; have := Z110.out; have := Z121.out; have := Z124.out; have := Z127.out; have := Z129.out; have := Z137.out; have := Z140.out; have := Z145.out; have := Z148.out; have := Z164.out; have := Z172.out; have := Z192.out; have := Z195.out;  omega)) (fun hs' => (by have := hs'.1; have := hs'.2.1; have := hk_.1; have := hk_.2.1; have := Z3.out; have := Z7.out; have := Z11.out; have := Z35.out; have := Z42.out; have := Z63.out; have := Z74.out; have := Z82.out; have := Z85.out; have := Z90.out; have := Z110.out; have := Z121.out; have := Z124.out; have := Z127.out; have := Z129.out; have := Z137.out; have := Z140.out; have := Z145.out; have := Z148.out; have := Z164.out; have := Z172.out; have := Z192.out; have := Z195.out;  omega)))))
  replace O59 := Aside0.mk (Kd.R_step O59.out (fun k_ hk_ hlt => hk.2 k_ hlt (fun hs => hs.elim (fun hq => (by have := hq.1; have := hq.2.1; have := hk_.1; have := hk_.2.1; have := Z3.out; have := Z7.out; have := Z11.out; have := Z35.out; have := Z42.out; have := Z63.out; have := Z74.out; have := Z82.out; have := Z85.out; have := Z90.out; have := Z110.out; have := Z121.out; have := Z124.out; have := Z127.out; have := Z129.out; have := Z137.out; have := Z140.out; have := Z145.out; have := Z148.out; have := Z164.out; have := Z172.out; have := Z192.out; have := Z195.out;  omega)) (fun hs' => (by have := hs'.1; have := hs'.2.1; have := hk_.1; have := hk_.2.1; have := Z3.out; have := Z7.out; have := Z11.out; have := Z35.out; have := Z42.out; have := Z63.out; have := Z74.out; have := Z82.out; have := Z85.out; have := Z90.out; have := Z110.out; have := Z121.out; have := Z124.out; have := Z127.out; have := Z129.out; have := Z137.out; have := Z140.out; have := Z145.out; have := Z148.out; have := Z164.out; have := Z172.out; have := Z192.out; have := Z195.out;  omega)))))
  replace O62 := Aside0.mk (Kd.R_step O62.out (fun k_ hk_ hlt => hk.2 k_ hlt (fun hs => hs.elim (fun hq => (by have := hq.1; have := hq.2.1; have := hk_.1; have := hk_.2.1; have := Z3.out; have := Z7.out; have := Z11.out; have := Z35.out; have := Z42.out; have := Z63.out; have := Z74.out; have := Z82.out; have := Z85.out; have := Z90.out; have := Z110.out; have := Z121.out; have := Z124.out; have := Z127.out; have := Z129.out; have := Z137.out; have := Z140.out; have := Z145.out; have := Z148.out; have := Z164.out; have := Z172.out; have := Z192.out; have := Z195.out;  omega)) (fun hs' => (by have := hs'.1; have := hs'.2.1; have := hk_.1; have := hk_.2.1; have := Z3.out; have := Z7.out; have := Z11.out; have := Z35.out; have := Z42.out; have := Z63.out; have := Z74.out; have := Z82.out; have := Z85.out; have := Z90.out; have := Z110.out; have := Z121.out; have := Z124.out; have := Z127.out; have := Z129.out; have := Z137.out; have := Z140.out; have := Z145.out; have := Z148.out; have := Z164.out; have := Z172.out; have := Z192.out; have := Z195.out;  omega)))))
  replace BK72 := Aside0.mk (blk_kept BK72.out hk (fun hs => hs.elim (fun hq => (by have := hq.1; have := hq.2.1; have := Z3.out; have := Z7.out; have := Z11.out; have := Z35.out; have := Z42.out; have := Z63.out; have := Z74.out; have := Z82.out; have := Z85.out; have := Z90.out; have := Z110.out; have := Z121.out; have := Z124.out; have := Z127.out; have := Z129.out; have := Z137.out; have := Z140.out; have := Z145.out; have := Z148.out; have := Z164.out; have := Z172.out; have := Z192.out; have := Z195.out; omega)) (fun hs' => (by have := hs'.1; have := hs'.2.1; have := Z3.out; have := Z7.out; have := Z11.out; have := Z35.out; have := Z42.out; have := Z63.out; have := Z74.out; have := Z82.out; have := Z85.out; have := Z90.out; have := Z110.out; have := Z121.out; have := Z124.out; have := Z127.out; have := Z129.out; have := Z137.out; have := Z140.out; have := Z145.out; have := Z148.out; have := Z164.out; have := Z172.out; have := Z192.out; have := Z195.out; omega))))
  replace O109 := Aside0.mk (Kd.R_step O109.out (fun k_ hk_ hlt => hk.2 k_ hlt (fun hs => hs.elim (fun hq => (Ty_ne hk_.2.2 hq.2.2 (by decide))) (fun hs' => (Ty_ne hk_.2.2 hs'.2.2 (by decide))))))
  replace BK119 := Aside0.mk (blk_kept BK119.out hk (fun hs => hs.elim (fun hq => (by have := hq.1; have := hq.2.1; have := Z3.out; have := Z7.out; have := Z11.out; have := Z35.out; have := Z42.out; have := Z63.out; have := Z74.out; have := Z82.out; have := Z85.out; have := Z90.out; have := Z110.out; have := Z121.out; have := Z124.out; have := Z127.out; have := Z129.out; have := Z137.out; have := Z140.out; have := Z145.out; have := Z148.out; have := Z164.out; have := Z172.out; have := Z192.out; have := Z195.out; omega)) (fun hs' => (by have := hs'.1; have := hs'.2.1; have := Z3.out; have := Z7.out; have := Z11.out; have := Z35.out; have := Z42.out; have := Z63.out; have := Z74.out; have := Z82.out; have := Z85.out; have := Z90.out; have := Z110.out; have := Z121.out; have := Z124.out; have := Z127.out; have := Z129.out; have := Z137.out; have := Z140.out; have := Z145.out; have := Z148.out; have := Z164.out; have := Z172.out; have := Z192.out; have := Z195.out; omega))))
  replace O103 := Aside0.mk h209
  replace O106 := Aside0.mk h210
  replace HB := Aside0.mk hb
  have Z211 := Aside0.mk hk.1
  clear hb hk h209 h210
  have hn212 := (Kd.S_reads' O103.out).1
  have hn212_ := Aside0.mk hn212
  clear hn212
  have hn213 := (Kd.R_reads' O106.out).1
  have hn213_ := Aside0.mk hn213
  clear hn213
  go_wp2_with fail
  refine (laws_markWindowS.calls k (Seg w86.heap.size w99.heap.size w99 [32]) _ r51 m205 m215 x216 w w204 HB.out O109.out e217.out).mono ?_
  rintro e w214 ⟨rfl, h218, hb, hk⟩
  replace BK1 := Aside0.mk (blk_kept BK1.out hk (fun hs => (by have := hs.1; have := hs.2.1; have := Z3.out; have := Z7.out; have := Z11.out; have := Z35.out; have := Z42.out; have := Z63.out; have := Z74.out; have := Z82.out; have := Z85.out; have := Z90.out; have := Z110.out; have := Z121.out; have := Z124.out; have := Z127.out; have := Z129.out; have := Z137.out; have := Z140.out; have := Z145.out; have := Z148.out; have := Z164.out; have := Z172.out; have := Z192.out; have := Z195.out; have := Z211.out; omega)))
  replace O56 := Aside0.mk (Kd.S_step O56.out (fun k_ hk_ hlt => hk.2 k_ hlt (fun hs => (by have := hs.1; have := hs.2.1; have := hk_.1; have := hk_.2.1; have := Z3.out; have := Z7.out; have := Z11.out; have := Z35.out; have := Z42.out; have := Z63.out; have := Z74.out; have := Z82.out; have := Z85.out; have := Z90.out; have := Z110.out; have := Z121.out; have := Z124.out; have := Z127.out; have := Z129.out; have := Z137.out; have := Z140.out; have := Z145.out; have := Z148.out; have := Z164.out; have := Z172.out; have := Z192.out; have := Z195.out; have := Z211.out;  omega))))
  replace O59 := Aside0.mk (Kd.R_step O59.out (fun k_ hk_ hlt => hk.2 k_ hlt (fun hs => (by have := hs.1; have := hs.2.1; have := hk_.1; have := hk_.2.1; have := Z3.out; have := Z7.out; have := Z11.out; have := Z35.out; have := Z42.out; have := Z63.out; have := Z74.out; have := Z82.out; have := Z85.out; have := Z90.out; have := Z110.out; have := Z121.out; have := Z124.out; have := Z127.out; have := Z129.out; have := Z137.out; have := Z140.out; have := Z145.out; have := Z148.out; have := Z164.out; have := Z172.out; have := Z192.out; have := Z195.out; have := Z211.out;  omega))))
  replace O62 := Aside0.mk (Kd.R_step O62.out (fun k_ hk_ hlt => hk.2 k_ hlt (fun hs => (by have := hs.1; have := hs.2.1; have := hk_.1; have := hk_.2.1; have := Z3.out; have := Z7.out; have := Z11.out; have := Z35.out; have := Z42.out; have := Z63.out; have := Z74.out; have := Z82.out; have := Z85.out; have := Z90.out; have := Z110.out; have := Z121.out; have := Z124.out; have := Z127.out; have := Z129.out; have := Z137.out; have := Z140.out; have := Z145.out; have := Z148.out; have := Z164.out; have := Z172.out; have := Z192.out; have := Z195.out; have := Z211.out;  omega))))
  replace BK72 := Aside0.mk (blk_kept BK72.out hk (fun hs => (by have := hs.1; have := hs.2.1; have := Z3.out; have := Z7.out; have := Z11.out; have := Z35.out; have := Z42.out; have := Z63.out; have := Z74.out; have := Z82.out; have := Z85.out; have := Z90.out; have := Z110.out; have := Z121.out; have := Z124.out; have := Z127.out; have := Z129.out; have := Z137.out; have := Z140.out; have := Z145.out; have := Z148.out; have := Z164.out; have := Z172.out; have := Z192.out; have := Z195.out; have := Z211.out; omega)))
  replace O103 := Aside0.mk (Kd.S_step O103.out (fun k_ hk_ hlt => hk.2 k_ hlt (fun hs => (Ty_ne hk_.2.2 hs.2.2 (by decide)))))
  replace O106 := Aside0.mk (Kd.R_step O106.out (fun k_ hk_ hlt => hk.2 k_ hlt (fun hs => (Ty_ne hk_.2.2 hs.2.2 (by decide)))))
  replace BK119 := Aside0.mk (blk_kept BK119.out hk (fun hs => (by have := hs.1; have := hs.2.1; have := Z3.out; have := Z7.out; have := Z11.out; have := Z35.out; have := Z42.out; have := Z63.out; have := Z74.out; have := Z82.out; have := Z85.out; have := Z90.out; have := Z110.out; have := Z121.out; have := Z124.out; have := Z127.out; have := Z129.out; have := Z137.out; have := Z140.out; have := Z145.out; have := Z148.out; have := Z164.out; have := Z172.out; have := Z192.out; have := Z195.out; have := Z211.out; omega)))
  replace O109 := Aside0.mk (Kd.R_flat (ok' := (Seg w86.heap.size w99.heap.size w99 [32])) (fun h => h) h218 (fun k_ hk_ _ => O109.out.1 k_ (by simpa using hk_)))
  replace HB := Aside0.mk hb
  have Z219 := Aside0.mk hk.1
  clear hb hk h218
  have hn220 := (Kd.R_reads' O109.out).1
  have hn220_ := Aside0.mk hn220
  clear hn220
  have hz221 : w214.cell? ⟨w99.heap.size, 0, none⟩ = some (.slice A101 r44.length c102) := (blk_cell BK119.out 0).trans rfl
  have hz222 : w214.cell? ⟨w99.heap.size, 1, none⟩ = some (.int .i64 r45) := (blk_cell BK119.out 1).trans rfl
  have hz223 : w214.cell? ⟨w99.heap.size, 2, none⟩ = some (.int .i64 r46) := (blk_cell BK119.out 2).trans rfl
  have hz224 : w214.cell? ⟨w99.heap.size, 3, none⟩ = some (.int .i64 r47) := (blk_cell BK119.out 3).trans rfl
  have hz225 : w214.cell? ⟨w99.heap.size, 4, none⟩ = some (.int .i64 r48) := (blk_cell BK119.out 4).trans rfl
  have hz226 : w214.cell? ⟨w99.heap.size, 5, none⟩ = some (.int .i64 r49) := (blk_cell BK119.out 5).trans rfl
  have hz227 : w214.cell? ⟨w99.heap.size, 6, none⟩ = some (.slice A104 r50.length c105) := (blk_cell BK119.out 6).trans rfl
  have hl228 : w99.heap.size < w214.heap.size := blk_lt BK119.out
  go_wp2_with fail
  clear hz221 hz222 hz223 hz224 hz225 hz226 hz227 hl228
  rw [hn212_.out]
  rw [hn213_.out]
  refine (laws_heldArena.calls k A101 c102 x206 r45 r46 r47 r48 r49 A104 c105 x207 1 m205 w214 (Kd.S_reads' O103.out).2.2 (Nat.le_trans (Nat.le_of_eq hn212_.out.symm) (Kd.S_reads' O103.out).2.1) (Kd.R_reads' O106.out).2.2 (Nat.le_trans (Nat.le_of_eq hn213_.out.symm) (Kd.R_reads' O106.out).2.1) e230.out).mono ?_
  rintro e w229 ⟨rfl, hb⟩
  replace BK1 := Aside0.mk (blk_below BK1.out hb)
  replace O56 := Aside0.mk (Kd.S_below O56.out hb)
  replace O59 := Aside0.mk (Kd.R_below O59.out hb)
  replace O62 := Aside0.mk (Kd.R_below O62.out hb)
  replace BK72 := Aside0.mk (blk_below BK72.out hb)
  replace O103 := Aside0.mk (Kd.S_below O103.out hb)
  replace O106 := Aside0.mk (Kd.R_below O106.out hb)
  replace O109 := Aside0.mk (Kd.R_below O109.out hb)
  replace BK119 := Aside0.mk (blk_below BK119.out hb)
  have Z231 := Aside0.mk (below_size hb)
  replace HB := Aside0.mk (below_step HB.out hb)
  clear hb 
  try rw [← hn213_.out]
  try rw [← hn212_.out]
  go_wp2_with fail
  rw [hn220_.out]
  refine (laws_heldWindowS.calls k A107 c108 x216 m205 m215 w229 (Kd.R_reads' O109.out).2.2 (Nat.le_trans (Nat.le_of_eq hn220_.out.symm) (Kd.R_reads' O109.out).2.1) e233.out).mono ?_
  rintro e w232 ⟨rfl, hb⟩
  replace hb := Drawn0.below hb
  replace BK1 := Aside0.mk (blk_below BK1.out hb)
  replace O56 := Aside0.mk (Kd.S_below O56.out hb)
  replace O59 := Aside0.mk (Kd.R_below O59.out hb)
  replace O62 := Aside0.mk (Kd.R_below O62.out hb)
  replace BK72 := Aside0.mk (blk_below BK72.out hb)
  replace O103 := Aside0.mk (Kd.S_below O103.out hb)
  replace O106 := Aside0.mk (Kd.R_below O106.out hb)
  replace O109 := Aside0.mk (Kd.R_below O109.out hb)
  replace BK119 := Aside0.mk (blk_below BK119.out hb)
  have Z234 := Aside0.mk (below_size hb)
  replace HB := Aside0.mk (below_step HB.out hb)
  clear hb 
  try rw [← hn220_.out]
  have hz235 : w232.cell? ⟨w.heap.size, 0, none⟩ = some (.slice A0_0 l0_0.length c0_0) := (blk_cell BK1.out 0).trans rfl
  have hz236 : w232.cell? ⟨w.heap.size, 1, none⟩ = some (.int .i64 a0_1) := (blk_cell BK1.out 1).trans rfl
  have hz237 : w232.cell? ⟨w.heap.size, 2, none⟩ = some (.int .i64 a0_2) := (blk_cell BK1.out 2).trans rfl
  have hz238 : w232.cell? ⟨w.heap.size, 3, none⟩ = some (.int .i64 a0_3) := (blk_cell BK1.out 3).trans rfl
  have hz239 : w232.cell? ⟨w.heap.size, 4, none⟩ = some (.int .i64 a0_4) := (blk_cell BK1.out 4).trans rfl
  have hz240 : w232.cell? ⟨w.heap.size, 5, none⟩ = some (.int .i64 a0_5) := (blk_cell BK1.out 5).trans rfl
  have hz241 : w232.cell? ⟨w.heap.size, 6, none⟩ = some (.slice A0_6 l0_6.length c0_6) := (blk_cell BK1.out 6).trans rfl
  have hl242 : w.heap.size < w232.heap.size := blk_lt BK1.out
  go_wp2_with fail
  clear hz235 hz236 hz237 hz238 hz239 hz240 hz241 hl242
  refine (laws_toArena.calls k A0_0 c0_0 l0_0 a0_1 a0_2 a0_3 a0_4 a0_5 A0_6 c0_6 l0_6 r21 r22 r23 r24 r25 r26 r27 w232 (Kd.C_below HR0_0.out HB.out) HC0_0.out (Kd.C_below HR0_6.out HB.out) HC0_6.out e28.out).mono ?_
  rintro e w243 ⟨v0_w243, v6_w243, rfl, h0_w243, h6_w243, hb⟩
  replace BK1 := Aside0.mk (blk_below BK1.out hb)
  replace O56 := Aside0.mk (Kd.S_below O56.out hb)
  replace O59 := Aside0.mk (Kd.R_below O59.out hb)
  replace O62 := Aside0.mk (Kd.R_below O62.out hb)
  replace BK72 := Aside0.mk (blk_below BK72.out hb)
  replace O103 := Aside0.mk (Kd.S_below O103.out hb)
  replace O106 := Aside0.mk (Kd.R_below O106.out hb)
  replace O109 := Aside0.mk (Kd.R_below O109.out hb)
  replace BK119 := Aside0.mk (blk_below BK119.out hb)
  obtain ⟨A244, c245, rfl⟩ := Kd.S_slice h0_w243
  have O246 := Aside0.mk (show Kd.S (Kd.slice 5 (Kd.int .u8)) 29 w243 w.heap.size (Seg w232.heap.size w243.heap.size w243 [29, 5]) (.slice A244 r21.length c245) r21 from Kd.S_lower (Kd.S_mono (Kd.S_bound h0_w243) (fun k_ hk => ⟨hk.2.1, hk.2.2.1, hk.2.2.2⟩)) (below_size HB.out))
  obtain ⟨A247, c248, rfl⟩ := Kd.R_slice h6_w243
  have O249 := Aside0.mk (show Kd.R (Kd.int .i64) 3 w243 w.heap.size (Seg w232.heap.size w243.heap.size w243 [3]) (.slice A247 r27.length c248) r27 from Kd.R_lower (Kd.R_mono (Kd.R_bound h6_w243) (fun k_ hk => ⟨hk.2.1, hk.2.2.1, hk.2.2.2⟩)) (below_size HB.out))
  have Z250 := Aside0.mk (below_size hb)
  replace HB := Aside0.mk (below_step HB.out hb)
  clear hb h0_w243 h6_w243
  clear BK1
  go_wp2_with fail
  refine (laws_toAskedS.calls k A1 c1 l1 r37 w243 (Kd.C_below HR1.out HB.out) HC1.out e38.out).mono ?_
  rintro e w251 ⟨v0_w251, rfl, h0_w251, hb⟩
  replace O56 := Aside0.mk (Kd.S_below O56.out hb)
  replace O59 := Aside0.mk (Kd.R_below O59.out hb)
  replace O62 := Aside0.mk (Kd.R_below O62.out hb)
  replace BK72 := Aside0.mk (blk_below BK72.out hb)
  replace O103 := Aside0.mk (Kd.S_below O103.out hb)
  replace O106 := Aside0.mk (Kd.R_below O106.out hb)
  replace O109 := Aside0.mk (Kd.R_below O109.out hb)
  replace BK119 := Aside0.mk (blk_below BK119.out hb)
  replace O246 := Aside0.mk (Kd.S_below O246.out hb)
  replace O249 := Aside0.mk (Kd.R_below O249.out hb)
  obtain ⟨A252, c253, rfl⟩ := Kd.R_slice h0_w251
  have O254 := Aside0.mk (show Kd.R k74 74 w251 w.heap.size (Seg w243.heap.size w251.heap.size w251 [74]) (.slice A252 r37.length c253) r37 from Kd.R_lower (Kd.R_mono (Kd.R_bound h0_w251) (fun k_ hk => ⟨hk.2.1, hk.2.2.1, hk.2.2.2⟩)) (below_size HB.out))
  have Z255 := Aside0.mk (below_size hb)
  replace HB := Aside0.mk (below_step HB.out hb)
  clear hb h0_w251
  go_wp2_with fail
  refine (impl_GiveAll.calls k A244 c245 r21 r22 r23 r24 r25 r26 A247 c248 r27 A252 c253 r37 r44 r45 r46 r47 r48 r49 r50 r51 r52 w251 (Kd.S_reads' O246.out).2.2 (Kd.S_reads' O246.out).2.1 (Kd.R_reads' O249.out).2.2 (Kd.R_reads' O249.out).2.1 (Kd.R_reads' O254.out).2.2 (Kd.R_reads' O254.out).2.1 e100.out).mono ?_
  rintro e w256 ⟨v0_w256, v6_w256, v7_w256, rfl, h0_w256, h6_w256, h7_w256, hb⟩
  replace O56 := Aside0.mk (Kd.S_below O56.out hb)
  replace O59 := Aside0.mk (Kd.R_below O59.out hb)
  replace O62 := Aside0.mk (Kd.R_below O62.out hb)
  replace BK72 := Aside0.mk (blk_below BK72.out hb)
  replace O103 := Aside0.mk (Kd.S_below O103.out hb)
  replace O106 := Aside0.mk (Kd.R_below O106.out hb)
  replace O109 := Aside0.mk (Kd.R_below O109.out hb)
  replace BK119 := Aside0.mk (blk_below BK119.out hb)
  replace O246 := Aside0.mk (Kd.S_below O246.out hb)
  replace O249 := Aside0.mk (Kd.R_below O249.out hb)
  replace O254 := Aside0.mk (Kd.R_below O254.out hb)
  obtain ⟨A257, c258, rfl⟩ := Kd.S_slice h0_w256
  have O259 := Aside0.mk (show Kd.S (Kd.slice 5 (Kd.int .u8)) 29 w256 w.heap.size (Seg w251.heap.size w256.heap.size w256 [29, 5]) (.slice A257 r44.length c258) r44 from Kd.S_lower (Kd.S_mono (Kd.S_bound h0_w256) (fun k_ hk => ⟨hk.2.1, hk.2.2.1, hk.2.2.2⟩)) (below_size HB.out))
  obtain ⟨A260, c261, rfl⟩ := Kd.R_slice h6_w256
  have O262 := Aside0.mk (show Kd.R (Kd.int .i64) 3 w256 w.heap.size (Seg w251.heap.size w256.heap.size w256 [3]) (.slice A260 r50.length c261) r50 from Kd.R_lower (Kd.R_mono (Kd.R_bound h6_w256) (fun k_ hk => ⟨hk.2.1, hk.2.2.1, hk.2.2.2⟩)) (below_size HB.out))
  obtain ⟨A263, c264, rfl⟩ := Kd.R_slice h7_w256
  have O265 := Aside0.mk (show Kd.R k32 32 w256 w.heap.size (Seg w251.heap.size w256.heap.size w256 [32]) (.slice A263 r51.length c264) r51 from Kd.R_lower (Kd.R_mono (Kd.R_bound h7_w256) (fun k_ hk => ⟨hk.2.1, hk.2.2.1, hk.2.2.2⟩)) (below_size HB.out))
  have Z266 := Aside0.mk (below_size hb)
  replace HB := Aside0.mk (below_step HB.out hb)
  clear hb h0_w256 h6_w256 h7_w256
  clear O246 O249 O254
  have hz267 : w256.cell? ⟨w43.heap.size, 0, none⟩ = some (.slice A54 r44.length c55) := (blk_cell BK72.out 0).trans rfl
  have hz268 : w256.cell? ⟨w43.heap.size, 1, none⟩ = some (.int .i64 r45) := (blk_cell BK72.out 1).trans rfl
  have hz269 : w256.cell? ⟨w43.heap.size, 2, none⟩ = some (.int .i64 r46) := (blk_cell BK72.out 2).trans rfl
  have hz270 : w256.cell? ⟨w43.heap.size, 3, none⟩ = some (.int .i64 r47) := (blk_cell BK72.out 3).trans rfl
  have hz271 : w256.cell? ⟨w43.heap.size, 4, none⟩ = some (.int .i64 r48) := (blk_cell BK72.out 4).trans rfl
  have hz272 : w256.cell? ⟨w43.heap.size, 5, none⟩ = some (.int .i64 r49) := (blk_cell BK72.out 5).trans rfl
  have hz273 : w256.cell? ⟨w43.heap.size, 6, none⟩ = some (.slice A57 r50.length c58) := (blk_cell BK72.out 6).trans rfl
  have hl274 : w43.heap.size < w256.heap.size := blk_lt BK72.out
  go_wp2_with fail
  clear hz267 hz268 hz269 hz270 hz271 hz272 hz273 hl274
  have HA276 := Below.alloc (Below.refl w256.heap.size w256) (Nat.le_refl _) (.cells #[.slice A257 r44.length c258, .int .i64 r45, .int .i64 r46, .int .i64 r47, .int .i64 r48, .int .i64 r49, .slice A260 r50.length c261] 70)
  replace O56 := Aside0.mk (Kd.S_below O56.out HA276)
  replace O59 := Aside0.mk (Kd.R_below O59.out HA276)
  replace O62 := Aside0.mk (Kd.R_below O62.out HA276)
  replace BK72 := Aside0.mk (blk_below BK72.out HA276)
  replace O103 := Aside0.mk (Kd.S_below O103.out HA276)
  replace O106 := Aside0.mk (Kd.R_below O106.out HA276)
  replace O109 := Aside0.mk (Kd.R_below O109.out HA276)
  replace BK119 := Aside0.mk (blk_below BK119.out HA276)
  replace O259 := Aside0.mk (Kd.S_below O259.out HA276)
  replace O262 := Aside0.mk (Kd.R_below O262.out HA276)
  replace O265 := Aside0.mk (Kd.R_below O265.out HA276)
  have BK275 := Aside0.mk (heap_alloc_new w256 (.cells #[.slice A257 r44.length c258, .int .i64 r45, .int .i64 r46, .int .i64 r47, .int .i64 r48, .int .i64 r49, .slice A260 r50.length c261] 70))
  replace HB := Aside0.mk (below_step HB.out HA276)
  have Z277 := Aside0.mk (show w256.heap.size < (w256.alloc (.cells #[.slice A257 r44.length c258, .int .i64 r45, .int .i64 r46, .int .i64 r47, .int .i64 r48, .int .i64 r49, .slice A260 r50.length c261] 70)).heap.size by simp)
  clear HA276
  have e279 := e123
  refine (laws_eqArena.calls k A257 c258 r44 r45 r46 r47 r48 r49 A260 c261 r50 A54 c55 r44 r45 r46 r47 r48 r49 A57 c58 r50 true (w256.alloc (.cells #[.slice A257 r44.length c258, .int .i64 r45, .int .i64 r46, .int .i64 r47, .int .i64 r48, .int .i64 r49, .slice A260 r50.length c261] 70)) (Kd.S_reads' O259.out).2.2 (Kd.S_reads' O259.out).2.1 (Kd.R_reads' O262.out).2.2 (Kd.R_reads' O262.out).2.1 (Kd.S_reads' O56.out).2.2 (Kd.S_reads' O56.out).2.1 (Kd.R_reads' O59.out).2.2 (Kd.R_reads' O59.out).2.1 e279.out).mono ?_
  rintro e w278 ⟨rfl, hb⟩
  replace O56 := Aside0.mk (Kd.S_below O56.out hb)
  replace O59 := Aside0.mk (Kd.R_below O59.out hb)
  replace O62 := Aside0.mk (Kd.R_below O62.out hb)
  replace BK72 := Aside0.mk (blk_below BK72.out hb)
  replace O103 := Aside0.mk (Kd.S_below O103.out hb)
  replace O106 := Aside0.mk (Kd.R_below O106.out hb)
  replace O109 := Aside0.mk (Kd.R_below O109.out hb)
  replace BK119 := Aside0.mk (blk_below BK119.out hb)
  replace O259 := Aside0.mk (Kd.S_below O259.out hb)
  replace O262 := Aside0.mk (Kd.R_below O262.out hb)
  replace O265 := Aside0.mk (Kd.R_below O265.out hb)
  replace BK275 := Aside0.mk (blk_below BK275.out hb)
  have Z280 := Aside0.mk (below_size hb)
  replace HB := Aside0.mk (below_step HB.out hb)
  clear hb 
  clear O56 O59 BK72 O259 O262 BK275
  go_wp2_with fail
  have e282 := e126
  refine (laws_eqWindowS.calls k A263 c264 r51 A60 c61 r51 true w278 (Kd.R_reads' O265.out).2.2 (Kd.R_reads' O265.out).2.1 (Kd.R_reads' O62.out).2.2 (Kd.R_reads' O62.out).2.1 e282.out).mono ?_
  rintro e w281 ⟨rfl, hb⟩
  replace O62 := Aside0.mk (Kd.R_below O62.out hb)
  replace O103 := Aside0.mk (Kd.S_below O103.out hb)
  replace O106 := Aside0.mk (Kd.R_below O106.out hb)
  replace O109 := Aside0.mk (Kd.R_below O109.out hb)
  replace BK119 := Aside0.mk (blk_below BK119.out hb)
  replace O265 := Aside0.mk (Kd.R_below O265.out hb)
  have Z283 := Aside0.mk (below_size hb)
  replace HB := Aside0.mk (below_step HB.out hb)
  clear hb 
  clear O62 O265
  have hz284 : w281.cell? ⟨w99.heap.size, 0, none⟩ = some (.slice A101 r44.length c102) := (blk_cell BK119.out 0).trans rfl
  have hz285 : w281.cell? ⟨w99.heap.size, 1, none⟩ = some (.int .i64 r45) := (blk_cell BK119.out 1).trans rfl
  have hz286 : w281.cell? ⟨w99.heap.size, 2, none⟩ = some (.int .i64 r46) := (blk_cell BK119.out 2).trans rfl
  have hz287 : w281.cell? ⟨w99.heap.size, 3, none⟩ = some (.int .i64 r47) := (blk_cell BK119.out 3).trans rfl
  have hz288 : w281.cell? ⟨w99.heap.size, 4, none⟩ = some (.int .i64 r48) := (blk_cell BK119.out 4).trans rfl
  have hz289 : w281.cell? ⟨w99.heap.size, 5, none⟩ = some (.int .i64 r49) := (blk_cell BK119.out 5).trans rfl
  have hz290 : w281.cell? ⟨w99.heap.size, 6, none⟩ = some (.slice A104 r50.length c105) := (blk_cell BK119.out 6).trans rfl
  have hl291 : w99.heap.size < w281.heap.size := blk_lt BK119.out
  go_wp2_with fail
  clear hz284 hz285 hz286 hz287 hz288 hz289 hz290 hl291
  rw [hn212_.out]
  rw [hn213_.out]
  refine (laws_heldArena.calls k A101 c102 x206 r45 r46 r47 r48 r49 A104 c105 x207 1 m205 w281 (Kd.S_reads' O103.out).2.2 (Nat.le_trans (Nat.le_of_eq hn212_.out.symm) (Kd.S_reads' O103.out).2.1) (Kd.R_reads' O106.out).2.2 (Nat.le_trans (Nat.le_of_eq hn213_.out.symm) (Kd.R_reads' O106.out).2.1) e230.out).mono ?_
  rintro e w292 ⟨rfl, hb⟩
  replace O103 := Aside0.mk (Kd.S_below O103.out hb)
  replace O106 := Aside0.mk (Kd.R_below O106.out hb)
  replace O109 := Aside0.mk (Kd.R_below O109.out hb)
  replace BK119 := Aside0.mk (blk_below BK119.out hb)
  have Z294 := Aside0.mk (below_size hb)
  replace HB := Aside0.mk (below_step HB.out hb)
  clear hb 
  try rw [← hn213_.out]
  try rw [← hn212_.out]
  clear O103 O106 BK119
  go_wp2_with fail
  rw [hn220_.out]
  refine (laws_heldWindowS.calls k A107 c108 x216 m205 m215 w292 (Kd.R_reads' O109.out).2.2 (Nat.le_trans (Nat.le_of_eq hn220_.out.symm) (Kd.R_reads' O109.out).2.1) e233.out).mono ?_
  rintro e w295 ⟨rfl, hb⟩
  replace hb := Drawn0.below hb
  replace O109 := Aside0.mk (Kd.R_below O109.out hb)
  have Z297 := Aside0.mk (below_size hb)
  replace HB := Aside0.mk (below_step HB.out hb)
  clear hb 
  try rw [← hn220_.out]
  clear O109
  go_wp2_with fail
  go_ret
  exact ⟨rfl, HB.out⟩

set_option maxHeartbeats 8000000 in
set_option maxRecDepth 100000 in
theorem FnExactGiveAll.walk_big0 (k : Nat) (A0_0 : Option Addr) (c0_0 : Nat) (l0_0 : List (List Int)) (a0_1 : Int) (a0_2 : Int) (a0_3 : Int) (a0_4 : Int) (a0_5 : Int) (A0_6 : Option Addr) (c0_6 : Nat) (l0_6 : List Int) (A1 : Option Addr) (c1 : Nat) (l1 : List S67) (r5 : Int) (w : World) (HR0_0 : Kd.C (Kd.slice 5 (Kd.int .u8)) w A0_0 l0_0.length l0_0) (HC0_0 : l0_0.length ≤ c0_0) (HR0_6 : Kd.C (Kd.int .i64) w A0_6 l0_6.length l0_6) (HC0_6 : l0_6.length ≤ c0_6) (HR1 : Kd.C k67 w A1 l1.length l1) (HC1 : l1.length ≤ c1) (e6 : laws_szArena.f k l0_0 a0_1 a0_2 a0_3 a0_4 a0_5 l0_6 1048576 = some r5) (n_r5 : r5 < 0) :
    Calls Try.prog 8 #[.agg #[.slice A0_0 l0_0.length c0_0, .int .i64 a0_1, .int .i64 a0_2, .int .i64 a0_3, .int .i64 a0_4, .int .i64 a0_5, .slice A0_6 l0_6.length c0_6], .slice A1 l1.length c1] w fun e w' => e = .returned (.bool true) ∧ Below w.heap.size w w' := by
  have hu65 := Try.underlying65
  have hu70 := Try.underlying70
  replace HR0_0 := Aside0.mk HR0_0
  replace HC0_0 := Aside0.mk HC0_0
  replace HR0_6 := Aside0.mk HR0_6
  replace HC0_6 := Aside0.mk HC0_6
  replace HR1 := Aside0.mk HR1
  replace HC1 := Aside0.mk HC1
  replace e6 := Aside0.mk e6
  replace n_r5 := decide_eq_true n_r5
  have HB := Aside0.mk (Below.refl w.heap.size w)
  go_enter Try.func8, Try.ntmps8
  go_wp2_with fail
  have HA2 := Below.alloc (Below.refl w.heap.size w) (Nat.le_refl _) (.cells #[.slice A0_0 l0_0.length c0_0, .int .i64 a0_1, .int .i64 a0_2, .int .i64 a0_3, .int .i64 a0_4, .int .i64 a0_5, .slice A0_6 l0_6.length c0_6] 65)
  have BK1 := Aside0.mk (heap_alloc_new w (.cells #[.slice A0_0 l0_0.length c0_0, .int .i64 a0_1, .int .i64 a0_2, .int .i64 a0_3, .int .i64 a0_4, .int .i64 a0_5, .slice A0_6 l0_6.length c0_6] 65))
  replace HB := Aside0.mk (below_step HB.out HA2)
  have Z3 := Aside0.mk (show w.heap.size < (w.alloc (.cells #[.slice A0_0 l0_0.length c0_0, .int .i64 a0_1, .int .i64 a0_2, .int .i64 a0_3, .int .i64 a0_4, .int .i64 a0_5, .slice A0_6 l0_6.length c0_6] 65)).heap.size by simp)
  clear HA2
  refine (laws_szArena.calls k A0_0 c0_0 l0_0 a0_1 a0_2 a0_3 a0_4 a0_5 A0_6 c0_6 l0_6 1048576 r5 (w.alloc (.cells #[.slice A0_0 l0_0.length c0_0, .int .i64 a0_1, .int .i64 a0_2, .int .i64 a0_3, .int .i64 a0_4, .int .i64 a0_5, .slice A0_6 l0_6.length c0_6] 65)) (Kd.C_below HR0_0.out HB.out) HC0_0.out (Kd.C_below HR0_6.out HB.out) HC0_6.out e6.out).mono ?_
  rintro e w4 ⟨rfl, hb⟩
  replace BK1 := Aside0.mk (blk_below BK1.out hb)
  have Z7 := Aside0.mk (below_size hb)
  replace HB := Aside0.mk (below_step HB.out hb)
  clear hb 
  go_wp2
  go_ret
  exact ⟨rfl, HB.out⟩

set_option maxHeartbeats 8000000 in
set_option maxRecDepth 100000 in
theorem FnExactGiveAll.walk_big1 (k : Nat) (A0_0 : Option Addr) (c0_0 : Nat) (l0_0 : List (List Int)) (a0_1 : Int) (a0_2 : Int) (a0_3 : Int) (a0_4 : Int) (a0_5 : Int) (A0_6 : Option Addr) (c0_6 : Nat) (l0_6 : List Int) (A1 : Option Addr) (c1 : Nat) (l1 : List S67) (r5 : Int) (r9 : Int) (w : World) (HR0_0 : Kd.C (Kd.slice 5 (Kd.int .u8)) w A0_0 l0_0.length l0_0) (HC0_0 : l0_0.length ≤ c0_0) (HR0_6 : Kd.C (Kd.int .i64) w A0_6 l0_6.length l0_6) (HC0_6 : l0_6.length ≤ c0_6) (HR1 : Kd.C k67 w A1 l1.length l1) (HC1 : l1.length ≤ c1) (e6 : laws_szArena.f k l0_0 a0_1 a0_2 a0_3 a0_4 a0_5 l0_6 1048576 = some r5) (n_r5 : ¬ r5 < 0) (e10 : laws_szAskedS.f l1 r5 = some r9) (n_r9 : r9 < 0) :
    Calls Try.prog 8 #[.agg #[.slice A0_0 l0_0.length c0_0, .int .i64 a0_1, .int .i64 a0_2, .int .i64 a0_3, .int .i64 a0_4, .int .i64 a0_5, .slice A0_6 l0_6.length c0_6], .slice A1 l1.length c1] w fun e w' => e = .returned (.bool true) ∧ Below w.heap.size w w' := by
  have hu65 := Try.underlying65
  have hu70 := Try.underlying70
  replace HR0_0 := Aside0.mk HR0_0
  replace HC0_0 := Aside0.mk HC0_0
  replace HR0_6 := Aside0.mk HR0_6
  replace HC0_6 := Aside0.mk HC0_6
  replace HR1 := Aside0.mk HR1
  replace HC1 := Aside0.mk HC1
  replace e6 := Aside0.mk e6
  replace n_r5 := decide_eq_false n_r5
  replace e10 := Aside0.mk e10
  replace n_r9 := decide_eq_true n_r9
  have HB := Aside0.mk (Below.refl w.heap.size w)
  go_enter Try.func8, Try.ntmps8
  go_wp2_with fail
  have HA2 := Below.alloc (Below.refl w.heap.size w) (Nat.le_refl _) (.cells #[.slice A0_0 l0_0.length c0_0, .int .i64 a0_1, .int .i64 a0_2, .int .i64 a0_3, .int .i64 a0_4, .int .i64 a0_5, .slice A0_6 l0_6.length c0_6] 65)
  have BK1 := Aside0.mk (heap_alloc_new w (.cells #[.slice A0_0 l0_0.length c0_0, .int .i64 a0_1, .int .i64 a0_2, .int .i64 a0_3, .int .i64 a0_4, .int .i64 a0_5, .slice A0_6 l0_6.length c0_6] 65))
  replace HB := Aside0.mk (below_step HB.out HA2)
  have Z3 := Aside0.mk (show w.heap.size < (w.alloc (.cells #[.slice A0_0 l0_0.length c0_0, .int .i64 a0_1, .int .i64 a0_2, .int .i64 a0_3, .int .i64 a0_4, .int .i64 a0_5, .slice A0_6 l0_6.length c0_6] 65)).heap.size by simp)
  clear HA2
  refine (laws_szArena.calls k A0_0 c0_0 l0_0 a0_1 a0_2 a0_3 a0_4 a0_5 A0_6 c0_6 l0_6 1048576 r5 (w.alloc (.cells #[.slice A0_0 l0_0.length c0_0, .int .i64 a0_1, .int .i64 a0_2, .int .i64 a0_3, .int .i64 a0_4, .int .i64 a0_5, .slice A0_6 l0_6.length c0_6] 65)) (Kd.C_below HR0_0.out HB.out) HC0_0.out (Kd.C_below HR0_6.out HB.out) HC0_6.out e6.out).mono ?_
  rintro e w4 ⟨rfl, hb⟩
  replace BK1 := Aside0.mk (blk_below BK1.out hb)
  have Z7 := Aside0.mk (below_size hb)
  replace HB := Aside0.mk (below_step HB.out hb)
  clear hb 
  go_wp2_with fail
  refine (laws_szAskedS.calls A1 c1 l1 r5 r9 w4 (Kd.C_below HR1.out HB.out) HC1.out e10.out).mono ?_
  rintro e w8 ⟨rfl, hb⟩
  replace hb := Drawn0.below hb
  replace BK1 := Aside0.mk (blk_below BK1.out hb)
  have Z11 := Aside0.mk (below_size hb)
  replace HB := Aside0.mk (below_step HB.out hb)
  clear hb 
  go_wp2
  go_ret
  exact ⟨rfl, HB.out⟩

def FnExactGiveAll.Pure : Prop := ∀ (l0_0 : List (List Int)) (a0_1 : Int) (a0_2 : Int) (a0_3 : Int) (a0_4 : Int) (a0_5 : Int) (l0_6 : List Int) (l1 : List S67), (l0_0.length ≤ maxLen ∧ ∀ z ∈ l0_0, (z.length ≤ maxLen ∧ ∀ z2 ∈ z, (Lit.int .u8 z2).wf = true)) → (Lit.int .i64 a0_1).wf = true → (Lit.int .i64 a0_2).wf = true → (Lit.int .i64 a0_3).wf = true → (Lit.int .i64 a0_4).wf = true → (Lit.int .i64 a0_5).wf = true → (l0_6.length ≤ maxLen ∧ ∀ z ∈ l0_6, (Lit.int .i64 z).wf = true) → (l1.length ≤ maxLen ∧ ∀ z ∈ l1, wf67 z) → (∃ (k : Nat) (r5 : Int) (r9 : Int) (r21 : List (List Int)) (r22 : Int) (r23 : Int) (r24 : Int) (r25 : Int) (r26 : Int) (r27 : List Int) (r37 : List S74) (r44 : List (List Int)) (r45 : Int) (r46 : Int) (r47 : Int) (r48 : Int) (r49 : Int) (r50 : List Int) (r51 : List S32) (r52 : Bool) (m158 : Int) (x159 : List (List Int)) (x160 : List Int) (m168 : Int) (x169 : List S74) (m205 : Int) (x206 : List (List Int)) (x207 : List Int) (m215 : Int) (x216 : List S32), laws_szArena.f k l0_0 a0_1 a0_2 a0_3 a0_4 a0_5 l0_6 1048576 = some r5 ∧ ¬ r5 < 0 ∧ laws_szAskedS.f l1 r5 = some r9 ∧ ¬ r9 < 0 ∧ laws_toArena.f k l0_0 a0_1 a0_2 a0_3 a0_4 a0_5 l0_6 = some (r21, r22, r23, r24, r25, r26, r27) ∧ laws_toAskedS.f k l1 = some r37 ∧ spec_GiveAll.f k r21 r22 r23 r24 r25 r26 r27 r37 = some (r44, r45, r46, r47, r48, r49, r50, r51, r52) ∧ impl_GiveAll.f k r21 r22 r23 r24 r25 r26 r27 r37 = some (r44, r45, r46, r47, r48, r49, r50, r51, r52) ∧ laws_eqArena.f k r44 r45 r46 r47 r48 r49 r50 r44 r45 r46 r47 r48 r49 r50 = some true ∧ laws_eqWindowS.f k r51 r51 = some true ∧ laws_eqArena.f k r21 r22 r23 r24 r25 r26 r27 r21 r22 r23 r24 r25 r26 r27 = some true ∧ laws_eqAskedS.f k r37 r37 = some true ∧ laws_markArena.f k r21 r27 1 = some (m158, x159, x160) ∧ laws_markAskedS.f k r37 m158 = some (m168, x169) ∧ ¬ m168 < 0 ∧ laws_markArena.f k r44 r50 1 = some (m205, x206, x207) ∧ laws_markWindowS.f k r51 m205 = some (m215, x216) ∧ laws_heldArena.f k x206 r45 r46 r47 r48 r49 x207 1 = some m205 ∧ ¬ m205 < 0 ∧ laws_heldWindowS.f k x216 m205 = some m215 ∧ ¬ m215 < 0) ∨
  (∃ (k : Nat) (r5 : Int), laws_szArena.f k l0_0 a0_1 a0_2 a0_3 a0_4 a0_5 l0_6 1048576 = some r5 ∧ r5 < 0) ∨
  (∃ (k : Nat) (r5 : Int) (r9 : Int), laws_szArena.f k l0_0 a0_1 a0_2 a0_3 a0_4 a0_5 l0_6 1048576 = some r5 ∧ ¬ r5 < 0 ∧ laws_szAskedS.f l1 r5 = some r9 ∧ r9 < 0)

theorem FnExactGiveAll.call (P_ : FnExactGiveAll.Pure) (A0_0 : Option Addr) (c0_0 : Nat) (l0_0 : List (List Int)) (a0_1 : Int) (a0_2 : Int) (a0_3 : Int) (a0_4 : Int) (a0_5 : Int) (A0_6 : Option Addr) (c0_6 : Nat) (l0_6 : List Int) (A1 : Option Addr) (c1 : Nat) (l1 : List S67) (w : World) (HR0_0 : Kd.C (Kd.slice 5 (Kd.int .u8)) w A0_0 l0_0.length l0_0) (HC0_0 : l0_0.length ≤ c0_0) (HR0_6 : Kd.C (Kd.int .i64) w A0_6 l0_6.length l0_6) (HC0_6 : l0_6.length ≤ c0_6) (HR1 : Kd.C k67 w A1 l1.length l1) (HC1 : l1.length ≤ c1) (W_0 : (l0_0.length ≤ maxLen ∧ ∀ z ∈ l0_0, (z.length ≤ maxLen ∧ ∀ z2 ∈ z, (Lit.int .u8 z2).wf = true))) (W_1 : (Lit.int .i64 a0_1).wf = true) (W_2 : (Lit.int .i64 a0_2).wf = true) (W_3 : (Lit.int .i64 a0_3).wf = true) (W_4 : (Lit.int .i64 a0_4).wf = true) (W_5 : (Lit.int .i64 a0_5).wf = true) (W_6 : (l0_6.length ≤ maxLen ∧ ∀ z ∈ l0_6, (Lit.int .i64 z).wf = true)) (W_7 : (l1.length ≤ maxLen ∧ ∀ z ∈ l1, wf67 z)) :
    Calls Try.prog 8 #[.agg #[.slice A0_0 l0_0.length c0_0, .int .i64 a0_1, .int .i64 a0_2, .int .i64 a0_3, .int .i64 a0_4, .int .i64 a0_5, .slice A0_6 l0_6.length c0_6], .slice A1 l1.length c1] w fun e w' => e = .returned (.bool true) ∧ Below w.heap.size w w' := by
  rcases P_ l0_0 a0_1 a0_2 a0_3 a0_4 a0_5 l0_6 l1 W_0 W_1 W_2 W_3 W_4 W_5 W_6 W_7 with h_ | h_ | h_
  · obtain ⟨k, r5, r9, r21, r22, r23, r24, r25, r26, r27, r37, r44, r45, r46, r47, r48, r49, r50, r51, r52, m158, x159, x160, m168, x169, m205, x206, x207, m215, x216, e6, n_r5, e10, n_r9, e28, e38, e53, e100, e123, e126, e139, e147, e161, e170, n_m168, e208, e217, e230, n_m205, e233, n_m215⟩ := h_
    exact FnExactGiveAll.walk k A0_0 c0_0 l0_0 a0_1 a0_2 a0_3 a0_4 a0_5 A0_6 c0_6 l0_6 A1 c1 l1 r5 r9 r21 r22 r23 r24 r25 r26 r27 r37 r44 r45 r46 r47 r48 r49 r50 r51 r52 m158 x159 x160 m168 x169 m205 x206 x207 m215 x216 w HR0_0 HC0_0 HR0_6 HC0_6 HR1 HC1 e6 n_r5 e10 n_r9 e28 e38 e53 e100 e123 e126 e139 e147 e161 e170 n_m168 e208 e217 e230 n_m205 e233 n_m215
  · obtain ⟨k, r5, e6, n_r5⟩ := h_
    exact FnExactGiveAll.walk_big0 k A0_0 c0_0 l0_0 a0_1 a0_2 a0_3 a0_4 a0_5 A0_6 c0_6 l0_6 A1 c1 l1 r5 w HR0_0 HC0_0 HR0_6 HC0_6 HR1 HC1 e6 n_r5
  · obtain ⟨k, r5, r9, e6, n_r5, e10, n_r9⟩ := h_
    exact FnExactGiveAll.walk_big1 k A0_0 c0_0 l0_0 a0_1 a0_2 a0_3 a0_4 a0_5 A0_6 c0_6 l0_6 A1 c1 l1 r5 r9 w HR0_0 HC0_0 HR0_6 HC0_6 HR1 HC1 e6 n_r5 e10 n_r9
end Go.Proofs.Ytmkcbbbknbahgaa.P
namespace Go.Proofs.Ytmkcbbbknbahgaa.P
open Go.RowKit Go.Proofs.YtmkcbbbknbahgaaW.PrintWords Go.Proofs.YtmkcbbbknbahgaaW.PrintLast Go.Proofs.YtmkcbbbknbahgaaW.PrintMore
set_option linter.unusedVariables false

/-- From some number of rounds on, F tells r. -/
def Ter {α : Type} (F : Nat → Option α) (r : α) : Prop := ∃ K, ∀ k, K ≤ k → F k = some r

theorem Ter.const {α : Type} {o : Option α} {r : α} (h : o = some r) : Ter (fun _ => o) r := ⟨0, fun _ _ => h⟩

theorem Ter.ret {α : Type} (r : α) : Ter (fun _ => some r) r := ⟨0, fun _ _ => rfl⟩

theorem Ter.succ {α : Type} {F : Nat → Option α} {r : α} (h : Ter (fun k => F (k + 1)) r) : Ter F r := by
  obtain ⟨K, h⟩ := h
  refine ⟨K + 1, fun k hk => ?_⟩
  obtain ⟨j, rfl⟩ : ∃ j, k = j + 1 := ⟨k - 1, by omega⟩
  exact h j (by omega)

theorem Ter.bind {α β : Type} {F : Nat → Option α} {G : Nat → α → Option β} {a : α} {b : β} (h1 : Ter F a) (h2 : Ter (fun k => G k a) b) : Ter (fun k => (F k).bind (G k)) b := by
  obtain ⟨K1, h1⟩ := h1
  obtain ⟨K2, h2⟩ := h2
  refine ⟨K1 + K2, fun k hk => ?_⟩
  show (F k).bind (G k) = _
  rw [h1 k (by omega)]
  exact h2 k (by omega)

theorem Ter.ifp {α : Type} {c : Prop} [Decidable c] {F G : Nat → Option α} {r : α} (h : c) (h1 : Ter F r) : Ter (fun k => if c then F k else G k) r := by
  simp only [if_pos h]
  exact h1

theorem Ter.ifn {α : Type} {c : Prop} [Decidable c] {F G : Nat → Option α} {r : α} (h : ¬ c) (h1 : Ter G r) : Ter (fun k => if c then F k else G k) r := by
  simp only [if_neg h]
  exact h1

theorem Ter.congr {α : Type} {F G : Nat → Option α} {r : α} (h : ∀ k, F k = G k) (h1 : Ter G r) : Ter F r := by
  obtain ⟨K, h1⟩ := h1
  exact ⟨K, fun k hk => (h k).trans (h1 k hk)⟩

theorem Ter.eq {α : Type} {F : Nat → Option α} {r s : α} (h : Ter F r) (e : r = s) : Ter F s := e ▸ h

theorem Ter.at {α : Type} {F : Nat → Option α} {r : α} (h : Ter F r) : ∃ K, ∀ k, K ≤ k → F k = some r := h

/-- Down from the last index. -/
theorem down_ {Q : Nat → Prop} (n : Nat) (fin : Q n) (step : ∀ i, i < n → Q (i + 1) → Q i) : ∀ i, i ≤ n → Q i := by
  have h : ∀ j i, i + j = n → Q i := by
    intro j
    induction j with
    | zero => intro i h; have : i = n := by omega
              exact this ▸ fin
    | succ j ih => intro i h; exact step i (by omega) (ih (i + 1) (by omega))
  intro i hi
  exact h (n - i) i (by omega)

theorem w64 {n : Int} (h0 : -9223372036854775808 ≤ n) (h1 : n ≤ 9223372036854775807) : wrap64 n = n := by unfold wrap64; omega

theorem w64s {i n : Nat} (h : i < n) (hn : n ≤ 9223372036854775807) : wrap64 ((i : Int) + 1) = ((i + 1 : Nat) : Int) := by
  rw [w64 (by omega) (by omega)]
  omega

theorem maxLen_ : maxLen = 9223372036854775807 := rfl

theorem getD_at {α : Type} {xs : List α} {d : α} {i : Nat} (h : i < xs.length) : xs.getD ((i : Int)).toNat d = xs[i] := by
  rw [Int.toNat_natCast, List.getD_eq_getElem?_getD, List.getElem?_eq_getElem h]
  rfl

theorem rd_at {xs : List Int} {i : Nat} (h : i < xs.length) : rd xs (i : Int) = xs[i] := getD_at h

theorem fill_set {α : Type} {xs : List α} {z : α} {i : Nat} (h : i < xs.length) : (xs.take i ++ List.replicate (xs.length - i) z).set ((i : Int)).toNat xs[i] = xs.take (i + 1) ++ List.replicate (xs.length - (i + 1)) z := by
  rw [Int.toNat_natCast]
  apply List.ext_getElem?
  intro j
  by_cases hj : j = i
  · subst hj
    rw [List.getElem?_set_self (by simp; omega), List.getElem?_append_left (by simp; omega), List.getElem?_take_of_lt (by omega), List.getElem?_eq_getElem h]
  · rw [List.getElem?_set_ne (by omega)]
    by_cases h1 : j < i
    · rw [List.getElem?_append_left (by simp; omega), List.getElem?_append_left (by simp; omega), List.getElem?_take_of_lt h1, List.getElem?_take_of_lt (by omega)]
    · rw [List.getElem?_append_right (by simp; omega), List.getElem?_append_right (by simp; omega)]
      simp only [List.length_take, List.getElem?_replicate]
      rw [show min i xs.length = i by omega, show min (i + 1) xs.length = i + 1 by omega]
      by_cases h2 : j < xs.length
      · rw [if_pos (by omega), if_pos (by omega)]
      · rw [if_neg (by omega), if_neg (by omega)]

theorem fill_len {α : Type} {xs : List α} {z : α} {i : Nat} (h : i ≤ xs.length) : (xs.take i ++ List.replicate (xs.length - i) z).length = xs.length := by
  simp
  omega

theorem fill_all {α : Type} {xs : List α} {z : α} : xs.take xs.length ++ List.replicate (xs.length - xs.length) z = xs := by simp

theorem take_one {α : Type} {xs : List α} {i : Nat} (h : i < xs.length) : xs.take i ++ [xs[i]] = xs.take (i + 1) := by
  rw [List.take_add_one, List.getElem?_eq_getElem h]
  rfl
end Go.Proofs.Ytmkcbbbknbahgaa.P
namespace Go.Proofs.Ytmkcbbbknbahgaa.P
open Go.RowKit Go.Proofs.YtmkcbbbknbahgaaW.PrintWords Go.Proofs.YtmkcbbbknbahgaaW.PrintLast Go.Proofs.YtmkcbbbknbahgaaW.PrintMore
set_option linter.unusedVariables false

def Small {α : Type} (l : List α) : Prop := l.length ≤ 1048576

theorem Small.le {α : Type} {l : List α} (h : Small l) : l.length ≤ 1048576 := h

theorem szByteS_is {l : List Int} {a : Int} (h0 : 0 ≤ a) (h1 : a ≤ 1048576) (hl : l.length ≤ maxLen) : ∃ r, laws_szByteS.f l a = some r ∧ (r < 0 ∨ (0 ≤ r ∧ r ≤ a ∧ Small l)) := by
  rw [maxLen_] at hl
  unfold laws_szByteS.f Small
  rw [w64 (by omega) (by omega)]
  by_cases h : a - (l.length : Int) < 0
  · rw [if_pos h]; exact ⟨_, rfl, .inl (by omega)⟩
  · rw [if_neg h]; exact ⟨_, rfl, .inr (by omega)⟩

theorem szByteSS_is {l : List (List Int)} {a : Int} (h0 : 0 ≤ a) (h1 : a ≤ 1048576) (hl : l.length ≤ maxLen ∧ ∀ z ∈ l, z.length ≤ maxLen) : ∃ r, Ter (fun k => laws_szByteSS.f k l a) r ∧ (r < 0 ∨ (0 ≤ r ∧ r ≤ a ∧ Small l ∧ ∀ z ∈ l, Small z)) := by
  have hl1 := hl.1
  rw [maxLen_] at hl1
  unfold laws_szByteSS.f
  rw [w64 (by omega) (by omega)]
  by_cases h : a - (l.length : Int) < 0
  · simp only [if_pos h]; exact ⟨_, Ter.ret _, .inl (by omega)⟩
  · simp only [if_neg h]
    have hs : Small l := by unfold Small; omega
    have key := down_ (Q := fun i => ∀ b, 0 ≤ b → b ≤ a → ∃ r, Ter (fun k => laws_szByteSS.l0 k l b (i : Int)) r ∧ (r < 0 ∨ (0 ≤ r ∧ r ≤ b ∧ ∀ j, i ≤ j → ∀ hj : j < l.length, Small l[j]))) l.length
      (fun b hb0 hb1 => ⟨b, Ter.succ (by simp only [laws_szByteSS.l0]; exact Ter.ifn (by omega) (Ter.ret _)), .inr ⟨hb0, Int.le_refl _, fun j h1 h2 => by omega⟩⟩)
      (fun i hi ih b hb0 hb1 => by
        obtain ⟨r, hr, hr2⟩ := szByteS_is (l := l[i]) hb0 (by omega) (hl.2 _ (List.getElem_mem hi))
        rcases hr2 with hr2 | ⟨hr2, hr3, hr4⟩
        · refine ⟨-1, Ter.succ ?_, .inl (by omega)⟩
          simp only [laws_szByteSS.l0]
          refine Ter.ifp (by omega) (Ter.ifp (by omega) ?_)
          rw [show rd_L1 l (i : Int) = l[i] from getD_at hi, hr]
          exact Ter.ifp (c := r < 0) hr2 (Ter.ret _)
        · obtain ⟨q, hq, hq2⟩ := ih r hr2 (by omega)
          refine ⟨q, Ter.succ ?_, ?_⟩
          · simp only [laws_szByteSS.l0]
            refine Ter.ifp (by omega) (Ter.ifp (by omega) ?_)
            rw [show rd_L1 l (i : Int) = l[i] from getD_at hi, hr]
            refine Ter.ifn (c := r < 0) (by omega) ?_
            rw [w64s hi (by omega)]
            exact hq
          · rcases hq2 with h | ⟨h1, h2, h3⟩
            · exact .inl h
            · refine .inr ⟨h1, by omega, fun j hj hj2 => ?_⟩
              by_cases hij : j = i
              · subst hij; exact hr4
              · exact h3 j (by omega) hj2) 0 (by omega) (a - (l.length : Int)) (by omega) (by omega)
    obtain ⟨r, hr, hr2⟩ := key
    refine ⟨r, hr, ?_⟩
    rcases hr2 with h | ⟨h1, h2, h3⟩
    · exact .inl h
    · refine .inr ⟨h1, by omega, hs, fun z hz => ?_⟩
      obtain ⟨j, hj, rfl⟩ := List.getElem_of_mem hz
      exact h3 j (by omega) hj

theorem szMemory_is {l : List (List Int)} {a : Int} (h0 : 0 ≤ a) (h1 : a ≤ 1048576) (hl : l.length ≤ maxLen ∧ ∀ z ∈ l, z.length ≤ maxLen) : ∃ r, Ter (fun k => laws_szMemory.f k l a) r ∧ (r < 0 ∨ (0 ≤ r ∧ r ≤ a ∧ Small l ∧ ∀ z ∈ l, Small z)) := by
  obtain ⟨r, hr, h⟩ := szByteSS_is h0 h1 hl
  unfold laws_szMemory.f
  rcases h with h | ⟨h2, h3, h4⟩
  · exact ⟨-1, hr.bind (Ter.ifp h (Ter.ret _)), .inl (by omega)⟩
  · exact ⟨r, hr.bind (Ter.ifn (by omega) (Ter.ret _)), .inr ⟨h2, h3, h4⟩⟩

theorem toByteS_is {l : List Int} (h : Small l) : Ter (fun k => laws_toByteS.f k l) l := by
  have hl := h.le
  unfold laws_toByteS.f
  refine Ter.ifp (by omega) (Ter.ifp (by omega) ?_)
  have key := down_ (Q := fun i => Ter (fun k => laws_toByteS.l0 k l (l.take i ++ List.replicate (l.length - i) 0) (i : Int)) l) l.length
    (Ter.succ (by simp only [laws_toByteS.l0]; exact Ter.ifn (by omega) ((Ter.ret _).eq fill_all)))
    (fun i hi ih => by
      refine Ter.succ ?_
      simp only [laws_toByteS.l0]
      refine Ter.ifp (by omega) (Ter.ifp (by omega) (Ter.ifp (by rw [fill_len (by omega)]; omega) ?_))
      rw [rd_at hi, w64s hi (by omega), fill_set hi]
      exact ih) 0 (by omega)
  simpa using key

theorem toByteSS_is {l : List (List Int)} (h : Small l) (hz : ∀ z ∈ l, Small z) : Ter (fun k => laws_toByteSS.f k l) l := by
  have hl := h.le
  unfold laws_toByteSS.f
  refine Ter.ifp (by omega) (Ter.ifp (by omega) ?_)
  have key := down_ (Q := fun i => Ter (fun k => laws_toByteSS.l0 k l (l.take i ++ List.replicate (l.length - i) []) (i : Int)) l) l.length
    (Ter.succ (by simp only [laws_toByteSS.l0]; exact Ter.ifn (by omega) ((Ter.ret _).eq fill_all)))
    (fun i hi ih => by
      refine Ter.succ ?_
      simp only [laws_toByteSS.l0]
      refine Ter.ifp (by omega) (Ter.ifp (by omega) ?_)
      rw [show rd_L1 l (i : Int) = l[i] from getD_at hi]
      refine (toByteS_is (hz _ (List.getElem_mem hi))).bind (Ter.ifp (by rw [fill_len (by omega)]; omega) ?_)
      rw [w64s hi (by omega), fill_set hi]
      exact ih) 0 (by omega)
  simpa using key

theorem toMemory_is {l : List (List Int)} (h : Small l) (hz : ∀ z ∈ l, Small z) : Ter (fun k => laws_toMemory.f k l) l := (toByteSS_is h hz).bind (Ter.ret _)

theorem eqByteS_is {l : List Int} (h : l.length ≤ maxLen) : Ter (fun k => laws_eqByteS.f k l l) true := by
  rw [maxLen_] at h
  unfold laws_eqByteS.f
  refine Ter.ifp rfl ?_
  exact down_ (Q := fun i => Ter (fun k => laws_eqByteS.l0 k l l (i : Int)) true) l.length
    (Ter.succ (by simp only [laws_eqByteS.l0]; exact Ter.ifn (by omega) (Ter.ret _)))
    (fun i hi ih => by
      refine Ter.succ ?_
      simp only [laws_eqByteS.l0, if_true]
      refine Ter.ifp (by omega) (Ter.ifp (by omega) (Ter.ifp (by omega) ?_))
      rw [w64s hi (by omega)]
      exact ih) 0 (by omega)

theorem eqByteSS_is {l : List (List Int)} (h : l.length ≤ maxLen ∧ ∀ z ∈ l, z.length ≤ maxLen) : Ter (fun k => laws_eqByteSS.f k l l) true := by
  have h1 := h.1
  rw [maxLen_] at h1
  unfold laws_eqByteSS.f
  refine Ter.ifp rfl ?_
  exact down_ (Q := fun i => Ter (fun k => laws_eqByteSS.l0 k l l (i : Int)) true) l.length
    (Ter.succ (by simp only [laws_eqByteSS.l0]; exact Ter.ifn (by omega) (Ter.ret _)))
    (fun i hi ih => by
      refine Ter.succ ?_
      simp only [laws_eqByteSS.l0]
      refine Ter.ifp (by omega) (Ter.ifp (by omega) (Ter.ifp (by omega) ?_))
      rw [show rd_L1 l (i : Int) = l[i] from getD_at hi]
      refine (eqByteS_is (h.2 _ (List.getElem_mem hi))).bind (Ter.ifp rfl ?_)
      rw [w64s hi (by omega)]
      exact ih) 0 (by omega)

theorem eqMemory_is {l : List (List Int)} (h : l.length ≤ maxLen ∧ ∀ z ∈ l, z.length ≤ maxLen) : Ter (fun k => laws_eqMemory.f k l l) true := (eqByteSS_is h).bind (Ter.ifp rfl (Ter.ret _))

/-- Marks: the numbers written and the number behind them; what is held is told again. -/
theorem markByteS_is {l : List Int} {a : Int} (h0 : 0 ≤ a) (h1 : a + l.length ≤ 9223372036854775807) : ∃ y, y.length = l.length ∧ Ter (fun k => laws_markByteS.f k l a) (a + l.length, y) ∧ Ter (fun k => laws_heldByteS.f k y a) (a + l.length) := by
  unfold laws_markByteS.f laws_heldByteS.f
  have key := down_ (Q := fun i => ∀ y : List Int, y.length = l.length → ∃ y', y'.length = l.length ∧ (∀ j, j < i → y'[j]? = y[j]?) ∧ Ter (fun k => laws_markByteS.l0 k y (a + i) (i : Int)) (a + l.length, y') ∧ Ter (fun k => laws_heldByteS.l0 k y' (a + i) (i : Int)) (a + l.length)) l.length
    (fun y hy => ⟨y, hy, fun _ _ => rfl, Ter.succ (by simp only [laws_markByteS.l0]; exact Ter.ifn (by omega) (Ter.ret _)), Ter.succ (by simp only [laws_heldByteS.l0]; exact Ter.ifn (by omega) (Ter.ret _))⟩)
    (fun i hi ih y hy => by
      obtain ⟨y', hy', hj, hm, hh⟩ := ih (y.set i ((a + i) % 256)) (by simpa using hy)
      have e : (a + (i : Int)) + 1 = a + ((i + 1 : Nat) : Int) := by omega
      refine ⟨y', hy', fun j hji => ?_, Ter.succ ?_, Ter.succ ?_⟩
      · rw [hj j (by omega), List.getElem?_set_ne (by omega)]
      · simp only [laws_markByteS.l0]
        refine Ter.ifp (by omega) (Ter.ifp (by omega) ?_)
        rw [w64s hi (by omega), w64 (by omega) (by omega), e, Int.toNat_natCast]
        exact hm
      · simp only [laws_heldByteS.l0]
        refine Ter.ifp (by omega) (Ter.ifp (by omega) (Ter.ifp ?_ ?_))
        · have := hj i (by omega)
          rw [List.getElem?_set_self (by omega), List.getElem?_eq_getElem (by omega)] at this
          rw [rd_at (by omega)]
          exact Option.some.inj this
        · rw [w64s hi (by omega), w64 (by omega) (by omega), e]
          exact hh) 0 (by omega) l rfl
  obtain ⟨y, hy, _, hm, hh⟩ := key
  exact ⟨y, hy, by simpa using hm, by simpa using hh⟩

def total (l : List (List Int)) : Nat := (l.map List.length).sum

theorem total_le : ∀ {l : List (List Int)}, (∀ z ∈ l, Small z) → total l ≤ l.length * 1048576
  | [], _ => by simp [total]
  | z :: l, h => by
    have := total_le (fun z hz => h z (List.mem_cons_of_mem _ hz))
    have := (h z (List.mem_cons_self ..)).le
    simp only [total, List.map_cons, List.sum_cons, List.length_cons] at *
    omega

theorem markByteSS_is {l : List (List Int)} {a : Int} (h0 : 0 ≤ a) (hl : l.length ≤ 4294967296) (h1 : a + total l ≤ 9223372036854775807) : ∃ y, y.length = l.length ∧ Ter (fun k => laws_markByteSS.f k l a) (a + total l, y) ∧ Ter (fun k => laws_heldByteSS.f k y a) (a + total l) := by
  unfold laws_markByteSS.f laws_heldByteSS.f
  have key := down_ (Q := fun i => ∀ (b : Int) (y : List (List Int)), 0 ≤ b → b + total (l.drop i) ≤ 9223372036854775807 → y.length = l.length → (∀ j, i ≤ j → y[j]? = l[j]?) → ∃ y', y'.length = l.length ∧ (∀ j, j < i → y'[j]? = y[j]?) ∧ Ter (fun k => laws_markByteSS.l0 k y b (i : Int)) (b + total (l.drop i), y') ∧ Ter (fun k => laws_heldByteSS.l0 k y' b (i : Int)) (b + total (l.drop i))) l.length
    (fun b y hb hb2 hy _ => ⟨y, hy, fun _ _ => rfl, Ter.succ (by simp only [laws_markByteSS.l0]; exact Ter.ifn (by omega) ((Ter.ret _).eq (by simp [total]))), Ter.succ (by simp only [laws_heldByteSS.l0]; exact Ter.ifn (by omega) ((Ter.ret _).eq (by simp [total])))⟩)
    (fun i hi ih b y hb hb2 hy hsame => by
      have hd : l.drop i = l[i] :: l.drop (i + 1) := List.drop_eq_getElem_cons hi
      have ht : total (l.drop i) = l[i].length + total (l.drop (i + 1)) := by rw [hd]; rfl
      rw [ht] at hb2 ⊢
      obtain ⟨z, hz, hzm, hzh⟩ := markByteS_is (l := l[i]) hb (by omega)
      obtain ⟨y', hy', hj, hm, hh⟩ := ih (b + l[i].length) (y.set i z) (by omega) (by omega) (by simpa using hy) (fun j hj => by rw [List.getElem?_set_ne (by omega)]; exact hsame j (by omega))
      have e : b + (l[i].length : Int) + (total (l.drop (i + 1)) : Int) = b + ((l[i].length + total (l.drop (i + 1)) : Nat) : Int) := by omega
      rw [e] at hm hh
      have hyi : y[i]'(by omega) = l[i] := by
        have := hsame i (Nat.le_refl _)
        rw [List.getElem?_eq_getElem (by omega), List.getElem?_eq_getElem hi] at this
        exact Option.some.inj this
      refine ⟨y', hy', fun j hji => ?_, Ter.succ ?_, Ter.succ ?_⟩
      · rw [hj j (by omega), List.getElem?_set_ne (by omega)]
      · simp only [laws_markByteSS.l0]
        refine Ter.ifp (by omega) (Ter.ifp (by omega) ?_)
        rw [show rd_L1 y (i : Int) = l[i] from (getD_at (by omega)).trans hyi]
        refine hzm.bind ?_
        rw [w64s hi (by omega), Int.toNat_natCast]
        exact hm
      · simp only [laws_heldByteSS.l0]
        refine Ter.ifp (by omega) (Ter.ifp (by omega) ?_)
        have := hj i (by omega)
        rw [List.getElem?_set_self (by omega), List.getElem?_eq_getElem (by omega)] at this
        rw [show rd_L1 y' (i : Int) = z from (getD_at (by omega)).trans (Option.some.inj this)]
        refine hzh.bind (Ter.ifn (by omega) ?_)
        rw [w64s hi (by omega)]
        exact hh) 0 (by omega) a l h0 (by simpa using h1) rfl (fun _ _ => rfl)
  obtain ⟨y, hy, _, hm, hh⟩ := key
  exact ⟨y, hy, by simpa using hm, by simpa using hh⟩

theorem heldMemory_is {y : List (List Int)} {a r : Int} (h0 : 0 ≤ r) (h : Ter (fun k => laws_heldByteSS.f k y a) r) : Ter (fun k => laws_heldMemory.f k y a) r := h.bind (Ter.ifn (by omega) (Ter.ret _))
end Go.Proofs.Ytmkcbbbknbahgaa.P
namespace Go.Proofs.Ytmkcbbbknbahgaa.P
open Go.RowKit Go.Proofs.YtmkcbbbknbahgaaW.PrintWords Go.Proofs.YtmkcbbbknbahgaaW.PrintLast Go.Proofs.YtmkcbbbknbahgaaW.PrintMore
set_option linter.unusedVariables false

def wf64 (n : Int) : Prop := -9223372036854775808 ≤ n ∧ n ≤ 9223372036854775807

theorem wf64_of {n : Int} (h : (Lit.int .i64 n).wf = true) : wf64 n := by
  simp only [Lit.wf, Bool.and_eq_true, decide_eq_true_eq] at h
  exact h

def wfW (x : S32) : Prop := wf64 x.f0 ∧ wf64 x.f1 ∧ wf64 x.f2 ∧ wf64 x.f3

theorem eqWindow_is (a b c d : Int) : laws_eqWindow.f a b c d a b c d = some true := by simp [laws_eqWindow.f]

theorem eqWindowS_is {l : List S32} (h : l.length ≤ maxLen) : Ter (fun k => laws_eqWindowS.f k l l) true := by
  rw [maxLen_] at h
  unfold laws_eqWindowS.f
  refine Ter.ifp rfl ?_
  exact down_ (Q := fun i => Ter (fun k => laws_eqWindowS.l0 k l l (i : Int)) true) l.length
    (Ter.succ (by simp only [laws_eqWindowS.l0]; exact Ter.ifn (by omega) (Ter.ret _)))
    (fun i hi ih => by
      refine Ter.succ ?_
      simp only [laws_eqWindowS.l0]
      refine Ter.ifp (by omega) (Ter.ifp (by omega) (Ter.ifp (by omega) ?_))
      refine Ter.bind (F := fun _ => laws_eqWindow.f _ _ _ _ _ _ _ _) (Ter.const (eqWindow_is _ _ _ _)) (Ter.ifp rfl ?_)
      rw [w64s hi (by omega)]
      exact ih) 0 (by omega)

theorem markWindowS_is {l : List S32} {a : Int} (h0 : 0 ≤ a) (hl : l.length ≤ 4294967296) (h1 : a + 4 * l.length ≤ 9223372036854775807) : ∃ y, y.length = l.length ∧ Ter (fun k => laws_markWindowS.f k l a) (a + 4 * l.length, y) ∧ Ter (fun k => laws_heldWindowS.f k y a) (a + 4 * l.length) := by
  unfold laws_markWindowS.f laws_heldWindowS.f
  have key := down_ (Q := fun i => ∀ y : List S32, y.length = l.length → ∃ y', y'.length = l.length ∧ (∀ j, j < i → y'[j]? = y[j]?) ∧ Ter (fun k => laws_markWindowS.l0 k y (a + 4 * i) (i : Int)) (a + 4 * l.length, y') ∧ Ter (fun k => laws_heldWindowS.l0 k y' (a + 4 * i) (i : Int)) (a + 4 * l.length)) l.length
    (fun y hy => ⟨y, hy, fun _ _ => rfl, Ter.succ (by simp only [laws_markWindowS.l0]; exact Ter.ifn (by omega) (Ter.ret _)), Ter.succ (by simp only [laws_heldWindowS.l0]; exact Ter.ifn (by omega) (Ter.ret _))⟩)
    (fun i hi ih y hy => by
      have hiy : i < y.length := by omega
      obtain ⟨y', hy', hj, hm, hh⟩ := ih (y.set i ⟨a + 4 * i, a + 4 * i + 1, a + 4 * i + 1 + 1, a + 4 * i + 1 + 1 + 1⟩) (by simpa using hy)
      have e : (a + 4 * (i : Int)) + 1 + 1 + 1 + 1 = a + 4 * ((i + 1 : Nat) : Int) := by omega
      have r0 : ∀ (z : List S32) (v : S32), i < z.length → rd_T32 (z.set i v) (i : Int) = v := fun z v hz => by
        rw [show rd_T32 (z.set i v) (i : Int) = (z.set i v)[i]'(by simpa using hz) from getD_at (by simpa using hz)]
        simp
      refine ⟨y', hy', fun j hji => ?_, Ter.succ ?_, Ter.succ ?_⟩
      · rw [hj j (by omega), List.getElem?_set_ne (by omega)]
      · simp only [laws_markWindowS.l0]
        refine Ter.ifp (by omega) (Ter.ifp (by omega) ?_)
        simp only [Option.bind_some, Int.toNat_natCast]
        rw [r0 y _ hiy]
        simp only [List.set_set]
        rw [r0 y _ hiy]
        simp only []
        rw [r0 y _ hiy, w64s hi (by omega), w64 (n := a + 4 * i + 1) (by omega) (by omega), w64 (n := a + 4 * i + 1 + 1) (by omega) (by omega), w64 (n := a + 4 * i + 1 + 1 + 1) (by omega) (by omega), w64 (n := a + 4 * i + 1 + 1 + 1 + 1) (by omega) (by omega), e]
        exact hm
      · simp only [laws_heldWindowS.l0]
        have := hj i (by omega)
        rw [List.getElem?_set_self (by omega), List.getElem?_eq_getElem (by omega)] at this
        rw [show rd_T32 y' (i : Int) = y'[i]'(by omega) from getD_at (by omega), Option.some.inj this]
        rw [w64s hi (by omega), w64 (n := a + 4 * i + 1) (by omega) (by omega), w64 (n := a + 4 * i + 1 + 1) (by omega) (by omega), w64 (n := a + 4 * i + 1 + 1 + 1) (by omega) (by omega), w64 (n := a + 4 * i + 1 + 1 + 1 + 1) (by omega) (by omega), e]
        refine Ter.ifp (by omega) (Ter.ifp (by omega) ?_)
        simp only [if_true]
        exact hh) 0 (by omega) l rfl
  obtain ⟨y, hy, _, hm, hh⟩ := key
  exact ⟨y, hy, by simpa using hm, by simpa using hh⟩
end Go.Proofs.Ytmkcbbbknbahgaa.P
namespace Go.Proofs.Ytmkcbbbknbahgaa.P
open Go.RowKit Go.Proofs.YtmkcbbbknbahgaaW.PrintWords Go.Proofs.YtmkcbbbknbahgaaW.PrintLast Go.Proofs.YtmkcbbbknbahgaaW.PrintMore
set_option linter.unusedVariables false

theorem szIntS_is {l : List Int} {a : Int} (h0 : 0 ≤ a) (h1 : a ≤ 1048576) (hl : l.length ≤ maxLen) : ∃ r, laws_szIntS.f l a = some r ∧ (r < 0 ∨ (0 ≤ r ∧ r ≤ a ∧ Small l)) := by
  rw [maxLen_] at hl
  unfold laws_szIntS.f Small
  rw [w64 (by omega) (by omega)]
  by_cases h : a - (l.length : Int) < 0
  · rw [if_pos h]; exact ⟨_, rfl, .inl (by omega)⟩
  · rw [if_neg h]; exact ⟨_, rfl, .inr (by omega)⟩

theorem toIntS_is {l : List Int} (h : Small l) : Ter (fun k => laws_toIntS.f k l) l := by
  have hl := h.le
  unfold laws_toIntS.f
  refine Ter.ifp (by omega) (Ter.ifp (by omega) ?_)
  have key := down_ (Q := fun i => Ter (fun k => laws_toIntS.l0 k l (l.take i ++ List.replicate (l.length - i) 0) (i : Int)) l) l.length
    (Ter.succ (by simp only [laws_toIntS.l0]; exact Ter.ifn (by omega) ((Ter.ret _).eq fill_all)))
    (fun i hi ih => by
      refine Ter.succ ?_
      simp only [laws_toIntS.l0]
      refine Ter.ifp (by omega) (Ter.ifp (by omega) (Ter.ifp (by rw [fill_len (by omega)]; omega) ?_))
      rw [rd_at hi, w64s hi (by omega), fill_set hi]
      exact ih) 0 (by omega)
  simpa using key

theorem eqIntS_is {l : List Int} (h : l.length ≤ maxLen) : Ter (fun k => laws_eqIntS.f k l l) true := by
  rw [maxLen_] at h
  unfold laws_eqIntS.f
  refine Ter.ifp rfl ?_
  exact down_ (Q := fun i => Ter (fun k => laws_eqIntS.l0 k l l (i : Int)) true) l.length
    (Ter.succ (by simp only [laws_eqIntS.l0]; exact Ter.ifn (by omega) (Ter.ret _)))
    (fun i hi ih => by
      refine Ter.succ ?_
      simp only [laws_eqIntS.l0, if_true]
      refine Ter.ifp (by omega) (Ter.ifp (by omega) (Ter.ifp (by omega) ?_))
      rw [w64s hi (by omega)]
      exact ih) 0 (by omega)

theorem markIntS_is {l : List Int} {a : Int} (h0 : 0 ≤ a) (h1 : a + l.length ≤ 9223372036854775807) : ∃ y, y.length = l.length ∧ Ter (fun k => laws_markIntS.f k l a) (a + l.length, y) ∧ Ter (fun k => laws_heldIntS.f k y a) (a + l.length) := by
  unfold laws_markIntS.f laws_heldIntS.f
  have key := down_ (Q := fun i => ∀ y : List Int, y.length = l.length → ∃ y', y'.length = l.length ∧ (∀ j, j < i → y'[j]? = y[j]?) ∧ Ter (fun k => laws_markIntS.l0 k y (a + i) (i : Int)) (a + l.length, y') ∧ Ter (fun k => laws_heldIntS.l0 k y' (a + i) (i : Int)) (a + l.length)) l.length
    (fun y hy => ⟨y, hy, fun _ _ => rfl, Ter.succ (by simp only [laws_markIntS.l0]; exact Ter.ifn (by omega) (Ter.ret _)), Ter.succ (by simp only [laws_heldIntS.l0]; exact Ter.ifn (by omega) (Ter.ret _))⟩)
    (fun i hi ih y hy => by
      obtain ⟨y', hy', hj, hm, hh⟩ := ih (y.set i (a + i)) (by simpa using hy)
      have e : (a + (i : Int)) + 1 = a + ((i + 1 : Nat) : Int) := by omega
      refine ⟨y', hy', fun j hji => ?_, Ter.succ ?_, Ter.succ ?_⟩
      · rw [hj j (by omega), List.getElem?_set_ne (by omega)]
      · simp only [laws_markIntS.l0]
        refine Ter.ifp (by omega) (Ter.ifp (by omega) ?_)
        rw [w64s hi (by omega), w64 (by omega) (by omega), e, Int.toNat_natCast]
        exact hm
      · simp only [laws_heldIntS.l0]
        refine Ter.ifp (by omega) (Ter.ifp (by omega) (Ter.ifp ?_ ?_))
        · have := hj i (by omega)
          rw [List.getElem?_set_self (by omega), List.getElem?_eq_getElem (by omega)] at this
          rw [rd_at (by omega)]
          exact Option.some.inj this
        · rw [w64s hi (by omega), w64 (by omega) (by omega), e]
          exact hh) 0 (by omega) l rfl
  obtain ⟨y, hy, _, hm, hh⟩ := key
  exact ⟨y, hy, by simpa using hm, by simpa using hh⟩

theorem szArena_is {m : List (List Int)} {a s n c u : Int} {l : List Int} (hl : m.length ≤ maxLen ∧ ∀ z ∈ m, z.length ≤ maxLen) (hw : l.length ≤ maxLen) {t : Int} (ht0 : 0 ≤ t) (ht : t ≤ 1048576) : ∃ r, Ter (fun k => laws_szArena.f k m a s n c u l t) r ∧ (r < 0 ∨ (0 ≤ r ∧ r ≤ t ∧ Small m ∧ (∀ z ∈ m, Small z) ∧ Small l)) := by
  unfold laws_szArena.f
  obtain ⟨r, hr, h⟩ := szMemory_is (a := t) (by omega) (by omega) hl
  rcases h with h | ⟨h1, h2, h3, h4⟩
  · exact ⟨-1, hr.bind (Ter.ifp h (Ter.ret _)), .inl (by omega)⟩
  · obtain ⟨q, hq, h⟩ := szIntS_is h1 (by omega) hw
    rcases h with h | ⟨h5, h6, h7⟩
    · exact ⟨-1, hr.bind (Ter.ifn (by omega) (Ter.bind (F := fun _ => laws_szIntS.f l r) (Ter.const hq) (Ter.ifp h (Ter.ret _)))), .inl (by omega)⟩
    · exact ⟨q, hr.bind (Ter.ifn (by omega) (Ter.bind (F := fun _ => laws_szIntS.f l r) (Ter.const hq) (Ter.ifn (by omega) (Ter.ret _)))), .inr ⟨by omega, by omega, h3, h4, h7⟩⟩

theorem toArena_is {m : List (List Int)} {a s n c u : Int} {l : List Int} (h : Small m) (hz : ∀ z ∈ m, Small z) (hl : Small l) : Ter (fun k => laws_toArena.f k m a s n c u l) (m, a, s, n, c, u, l) := by
  unfold laws_toArena.f
  exact (toMemory_is h hz).bind (Ter.bind (F := fun _ => laws_toWindow.f a s n c) (a := (a, s, n, c)) (Ter.ret _) ((toIntS_is hl).bind (Ter.ret _)))

theorem eqArena_is {m : List (List Int)} {a s n c u : Int} {l : List Int} (h : Small m) (hz : ∀ z ∈ m, Small z) (hl : Small l) : Ter (fun k => laws_eqArena.f k m a s n c u l m a s n c u l) true := by
  unfold laws_eqArena.f
  refine (eqMemory_is ⟨by have := h.le; rw [maxLen_]; omega, fun z hz1 => by have := (hz z hz1).le; rw [maxLen_]; omega⟩).bind (Ter.ifp rfl (Ter.bind (F := fun _ => laws_eqWindow.f a s n c a s n c) (Ter.const (eqWindow_is _ _ _ _)) (Ter.ifp rfl ?_)))
  simp only [if_true]
  exact (eqIntS_is (by have := hl.le; rw [maxLen_]; omega)).bind (Ter.ifp rfl (Ter.ret _))

theorem markArena_is {m : List (List Int)} {a s n c u : Int} {l : List Int} {b : Int} (h : Small m) (hz : ∀ z ∈ m, Small z) (hl : Small l) (hb : 0 ≤ b) (hb2 : b ≤ 4611686018427387904) : ∃ x y r, x.length = m.length ∧ y.length = l.length ∧ ¬ r < 0 ∧ r ≤ b + 1099513724928 ∧ Ter (fun k => laws_markArena.f k m l b) (r, x, y) ∧ Ter (fun k => laws_heldArena.f k x a s n c u y b) r := by
  have ht := total_le hz
  have h1 := h.le
  have h2 := hl.le
  obtain ⟨x, hx, hm1, hm2⟩ := markByteSS_is (l := m) (a := b) (by omega) (by omega) (by omega)
  obtain ⟨y, hy, hy1, hy2⟩ := markIntS_is (l := l) (a := b + total m) (by omega) (by omega)
  refine ⟨x, y, _, hx, hy, by omega, by omega, hm1.bind (hy1.bind (Ter.ret _)), ?_⟩
  unfold laws_heldArena.f
  exact (heldMemory_is (by omega) hm2).bind (Ter.ifn (by omega) (hy2.bind (Ter.ifn (by omega) (Ter.ret _))))
end Go.Proofs.Ytmkcbbbknbahgaa.P
namespace Go.Proofs.Ytmkcbbbknbahgaa.P
open Go.RowKit Go.Proofs.YtmkcbbbknbahgaaW.PrintWords Go.Proofs.YtmkcbbbknbahgaaW.PrintLast Go.Proofs.YtmkcbbbknbahgaaW.PrintMore
set_option linter.unusedVariables false

theorem in_is (a b c : Int) : spec_l1In.f a b c = some (decide (b ≤ a ∧ a ≤ c)) := by
  unfold spec_l1In.f
  by_cases h : a ≥ b
  · rw [if_pos h]; congr 1; simp only [decide_eq_decide]; omega
  · rw [if_neg h]; congr 1; symm; simp only [decide_eq_false_iff_not]; omega

theorem within_is (a b c : Int) : impl_within.f a b c = some (decide (b ≤ a ∧ a ≤ c)) := by
  unfold impl_within.f
  by_cases h : a ≥ b
  · rw [if_pos h]; congr 1; simp only [decide_eq_decide]; omega
  · rw [if_neg h]; congr 1; symm; simp only [decide_eq_false_iff_not]; omega

/-- A valid memory. -/
def IsMem (m : List (List Int)) : Prop := m.length ≤ 16 ∧ ∀ z ∈ m, 1 ≤ z.length ∧ z.length ≤ 64

instance (m : List (List Int)) : Decidable (IsMem m) := by unfold IsMem; infer_instance

theorem IsMem.at {m : List (List Int)} (h : IsMem m) {i : Nat} (hi : i < m.length) : 1 ≤ m[i].length ∧ m[i].length ≤ 64 := h.2 _ (List.getElem_mem hi)

theorem l2Memory_is {m : List (List Int)} (h : m.length ≤ maxLen) : Ter (fun k => spec_l2Memory.f k m) (decide (IsMem m)) := by
  rw [maxLen_] at h
  unfold spec_l2Memory.f
  have key := down_ (Q := fun i => (∀ j, j < i → ∀ hj : j < m.length, 1 ≤ m[j].length ∧ m[j].length ≤ 64) → Ter (fun k => spec_l2Memory.l0 k (i : Int) m) (decide (IsMem m))) m.length
    (fun ok => by
      refine Ter.succ ?_
      simp only [spec_l2Memory.l0]
      refine Ter.ifn (by omega) (Ter.succ ?_)
      simp only [spec_l2Memory.j1]
      refine Ter.ifn (by simp) ((Ter.ret _).eq ?_)
      simp only [decide_eq_decide]
      constructor
      · intro h1
        refine ⟨by omega, fun z hz => ?_⟩
        obtain ⟨j, hj, rfl⟩ := List.getElem_of_mem hz
        exact ok j hj hj
      · intro h1; have := h1.1; omega)
    (fun i hi ih ok => by
      refine Ter.succ ?_
      simp only [spec_l2Memory.l0]
      refine Ter.ifp (by omega) (Ter.succ ?_)
      simp only [spec_l2Memory.j1]
      by_cases h16 : (i : Int) ≤ 16
      · refine Ter.ifp (by simpa using h16) (Ter.ifp (by omega) (Ter.ifp (by omega) ?_))
        rw [show rd_L1 m (i : Int) = m[i] from getD_at hi, in_is]
        by_cases hl : 1 ≤ (m[i].length : Int) ∧ (m[i].length : Int) ≤ 64
        · refine Ter.ifp (c := decide _ = true) (by simpa using hl) ?_
          rw [w64s hi (by omega)]
          exact ih (fun j hj hj2 => by
            by_cases hji : j = i
            · subst hji; omega
            · exact ok j (by omega) hj2)
        · refine Ter.ifn (c := decide _ = true) (by simpa using hl) ((Ter.ret _).eq ?_)
          symm
          simp only [decide_eq_false_iff_not]
          intro h1
          have := h1.at hi
          omega
      · refine Ter.ifn (by simpa using h16) ((Ter.ret _).eq ?_)
        simp only [decide_eq_decide]
        constructor
        · intro h1; omega
        · intro h1; have := h1.1; omega) 0 (by omega)
  exact key (fun j hj => by omega)

theorem isMemory_is {m : List (List Int)} (h : m.length ≤ maxLen) : Ter (fun k => impl_IsMemory.f k m) (decide (IsMem m)) := by
  rw [maxLen_] at h
  unfold impl_IsMemory.f
  have key := down_ (Q := fun i => (∀ j, j < i → ∀ hj : j < m.length, 1 ≤ m[j].length ∧ m[j].length ≤ 64) → Ter (fun k => impl_IsMemory.l0 k m (m.length : Int) (i : Int) m) (decide (IsMem m))) m.length
    (fun ok => by
      refine Ter.succ ?_
      simp only [impl_IsMemory.l0]
      refine Ter.ifn (by omega) ((Ter.ret _).eq ?_)
      simp only [decide_eq_decide]
      constructor
      · intro h1
        refine ⟨by omega, fun z hz => ?_⟩
        obtain ⟨j, hj, rfl⟩ := List.getElem_of_mem hz
        exact ok j hj hj
      · intro h1; have := h1.1; omega)
    (fun i hi ih ok => by
      refine Ter.succ ?_
      simp only [impl_IsMemory.l0]
      refine Ter.ifp (by omega) (Ter.ifp (by omega) (Ter.ifp (by omega) ?_))
      rw [show rd_L1 m (i : Int) = m[i] from getD_at hi, within_is]
      by_cases hl : 1 ≤ (m[i].length : Int) ∧ (m[i].length : Int) ≤ 64
      · refine Ter.ifp (c := decide _ = true) (by simpa using hl) ?_
        rw [w64s hi (by omega)]
        exact ih (fun j hj hj2 => by
          by_cases hji : j = i
          · subst hji; omega
          · exact ok j (by omega) hj2)
      · refine Ter.ifn (c := decide _ = true) (by simpa using hl) ((Ter.ret _).eq ?_)
        symm
        simp only [decide_eq_false_iff_not]
        intro h1
        have := h1.at hi
        omega) 0 (by omega)
  exact key (fun j hj => by omega)

/-- A window of the memory. -/
def OnMem (m : List (List Int)) (a s n c : Int) : Prop := 0 ≤ a ∧ a < m.length ∧ 0 ≤ s ∧ s + c ≤ ((m.getD a.toNat []).length : Int) ∧ 0 ≤ n ∧ n ≤ c

instance (m : List (List Int)) (a s n c : Int) : Decidable (OnMem m a s n c) := by unfold OnMem; infer_instance

theorem OnMem.c0 {m : List (List Int)} {a s n c : Int} (h : OnMem m a s n c) : 0 ≤ c := by obtain ⟨_, _, _, _, _, _⟩ := h; omega

theorem l2Window_is {m : List (List Int)} {a s n c : Int} (h : m.length ≤ maxLen) (hz : ∀ z ∈ m, z.length ≤ maxLen) : Ter (fun k => spec_l2Window.f k m a s n c) (decide (IsMem m ∧ OnMem m a s n c)) := by
  have h' := h
  rw [maxLen_] at h'
  unfold spec_l2Window.f
  refine (l2Memory_is h).bind ?_
  by_cases hm : IsMem m
  · refine Ter.ifp (by simpa using hm) ?_
    rw [in_is, w64 (by omega) (by omega)]
    refine Ter.bind (F := fun _ => some _) (Ter.ret _) (Ter.succ ?_)
    simp only [spec_l2Window.j0]
    by_cases ha : 0 ≤ a ∧ a ≤ (m.length : Int) - 1
    · refine Ter.ifn (by simp [ha]) (Ter.ifp (by omega) (Ter.ifp (by omega) ?_))
      obtain ⟨i, rfl⟩ : ∃ i : Nat, a = (i : Int) := ⟨a.toNat, by omega⟩
      have hi : i < m.length := by omega
      rw [show rd_L1 m (i : Int) = m[i] from getD_at hi]
      simp only [in_is, Option.bind_some]
      have hl := hm.at hi
      by_cases h1 : 0 ≤ s ∧ s ≤ (m[i].length : Int)
      · rw [w64 (by omega) (by omega)]
        refine Ter.ifp (by simpa using h1) ?_
        by_cases h2 : 0 ≤ c ∧ c ≤ (m[i].length : Int) - s
        · refine Ter.ifp (by simpa using h2) ((Ter.ret _).eq ?_)
          simp only [decide_eq_decide]
          unfold OnMem
          rw [getD_at hi]
          constructor
          · intro h3; exact ⟨hm, by omega⟩
          · intro h3; obtain ⟨_, h4⟩ := h3; omega
        · refine Ter.ifn (by simpa using h2) ((Ter.ret _).eq ?_)
          symm
          simp only [decide_eq_false_iff_not]
          unfold OnMem
          rw [getD_at hi]
          rintro ⟨_, h4⟩; omega
      · refine Ter.ifn (by simpa using h1) ((Ter.ret _).eq ?_)
        symm
        simp only [decide_eq_false_iff_not]
        unfold OnMem
        rw [getD_at hi]
        rintro ⟨_, h4⟩; omega
    · refine Ter.ifp (by simp only [Bool.not_eq_true', decide_eq_false_iff_not]; omega) ((Ter.ret _).eq ?_)
      symm
      simp only [decide_eq_false_iff_not]
      unfold OnMem
      rintro ⟨_, h4⟩; omega
  · refine Ter.ifn (by simpa using hm) (Ter.succ ?_)
    simp only [spec_l2Window.j0]
    simp only [if_true]
    refine (Ter.ret _).eq ?_
    symm
    simp only [decide_eq_false_iff_not]
    exact fun h1 => hm h1.1

theorem hasWindow_is {m : List (List Int)} {a s n c : Int} (hm : IsMem m) (hs : wf64 s) (hc : wf64 c) : impl_Memory_hasWindow.f m a s n c = some (decide (OnMem m a s n c)) := by
  have hml := hm.1
  unfold impl_Memory_hasWindow.f impl_Memory_hasArray.f
  simp only [within_is, Option.bind_some, decide_eq_true_eq]
  rw [w64 (n := (m.length : Int) - 1) (by omega) (by omega)]
  by_cases ha : 0 ≤ a ∧ a ≤ (m.length : Int) - 1
  · rw [if_pos ha]
    obtain ⟨i, rfl⟩ : ∃ i : Nat, a = (i : Int) := ⟨a.toNat, by omega⟩
    have hi : i < m.length := by omega
    have hl := hm.at hi
    rw [show rd_L1 m (i : Int) = m[i] from getD_at hi]
    by_cases h1 : 0 ≤ c ∧ c ≤ 64
    · rw [if_pos h1]
      by_cases h2 : 0 ≤ n ∧ n ≤ c
      · rw [if_pos h2, if_pos (by omega), if_pos (by omega), w64 (by omega) (by omega)]
        congr 1
        simp only [decide_eq_decide]
        unfold OnMem
        rw [getD_at hi]
        omega
      · rw [if_neg h2]
        congr 1
        symm
        simp only [decide_eq_false_iff_not]
        unfold OnMem
        rw [getD_at hi]
        omega
    · rw [if_neg h1]
      congr 1
      symm
      simp only [decide_eq_false_iff_not]
      unfold OnMem
      rw [getD_at hi]
      omega
  · rw [if_neg ha]
    congr 1
    symm
    simp only [decide_eq_false_iff_not]
    unfold OnMem
    omega

theorem l2Own_is {m : List (List Int)} (h : IsMem m) : Ter (fun k => spec_l2Own.f k m) m := by
  have hml := h.1
  unfold spec_l2Own.f
  have key := down_ (Q := fun i => Ter (fun k => spec_l2Own.l0 k (i : Int) m (m.take i)) m) m.length
    (Ter.succ (by simp only [spec_l2Own.l0]; exact Ter.ifn (by omega) ((Ter.ret _).eq (List.take_length))))
    (fun i hi ih => by
      refine Ter.succ ?_
      simp only [spec_l2Own.l0]
      have hl := h.at hi
      rw [show rd_L1 m (i : Int) = m[i] from getD_at hi]
      refine Ter.ifp (by omega) (Ter.bind (F := fun _ => some _) (Ter.ret _) (Ter.ifp (by omega) (Ter.ifp (by simp; omega) (Ter.ifp (by simp; omega) ?_))))
      rw [w64s hi (by omega), List.nil_append, take_one hi]
      exact ih) 0 (by omega)
  simpa using key

theorem memOwn_is {m : List (List Int)} (h : IsMem m) : Ter (fun k => impl_Memory_own.f k m) m := by
  have hml := h.1
  unfold impl_Memory_own.f
  have key := down_ (Q := fun i => Ter (fun k => impl_Memory_own.l0 k m (m.length : Int) (i : Int) (m.take i)) m) m.length
    (Ter.succ (by simp only [impl_Memory_own.l0]; exact Ter.ifn (by omega) ((Ter.ret _).eq (List.take_length))))
    (fun i hi ih => by
      refine Ter.succ ?_
      simp only [impl_Memory_own.l0]
      have hl := h.at hi
      rw [show rd_L1 m (i : Int) = m[i] from getD_at hi]
      refine Ter.ifp (by omega) (Ter.ifp (by omega) (Ter.ifp (by omega) ?_))
      refine Ter.bind (F := fun _ => slices_Clone_byte.f _) (Ter.const (by unfold slices_Clone_byte.f; rw [if_pos (by omega)])) (Ter.ifp (by simp; omega) ?_)
      rw [w64s hi (by omega), take_one hi]
      exact ih) 0 (by omega)
  simpa using key
end Go.Proofs.Ytmkcbbbknbahgaa.P
namespace Go.Proofs.Ytmkcbbbknbahgaa.P
open Go.RowKit Go.Proofs.YtmkcbbbknbahgaaW.PrintWords Go.Proofs.YtmkcbbbknbahgaaW.PrintLast Go.Proofs.YtmkcbbbknbahgaaW.PrintMore
set_option linter.unusedVariables false

def OnW (m : List (List Int)) (w : S32) : Prop := OnMem m w.f0 w.f1 w.f2 w.f3

instance (m : List (List Int)) (w : S32) : Decidable (OnW m w) := by unfold OnW; infer_instance

def AreOn (m : List (List Int)) (ws : List S32) : Prop := IsMem m ∧ ∀ w ∈ ws, OnW m w

instance (m : List (List Int)) (ws : List S32) : Decidable (AreOn m ws) := by unfold AreOn; infer_instance

theorem areOn_is {m : List (List Int)} {ws : List S32} (h : m.length ≤ maxLen) (hw : ∀ w ∈ ws, wfW w) : Ter (fun k => impl_areOn.f k m ws) (decide (AreOn m ws)) := by
  unfold impl_areOn.f
  refine (isMemory_is h).bind ((Ter.ret _).eq ?_)
  by_cases hm : IsMem m
  · simp only [hm, decide_true, Bool.true_and]
    rw [Bool.eq_iff_iff]
    simp only [List.all_eq_true, decide_eq_true_eq]
    constructor
    · intro h1
      refine ⟨hm, fun w hw1 => ?_⟩
      have := h1 w hw1
      unfold hasW at this
      rw [hasWindow_is hm (hw w hw1).2.1 (hw w hw1).2.2.2] at this
      simpa [OnW] using this
    · intro h1 w hw1
      unfold hasW
      rw [hasWindow_is hm (hw w hw1).2.1 (hw w hw1).2.2.2]
      simpa [OnW] using h1.2 w hw1
  · simp only [hm, decide_false, Bool.false_and]
    symm
    simp only [decide_eq_false_iff_not]
    exact fun h1 => hm h1.1
end Go.Proofs.Ytmkcbbbknbahgaa.P
namespace Go.Proofs.Ytmkcbbbknbahgaa.P
open Go.RowKit Go.Proofs.YtmkcbbbknbahgaaW.PrintWords Go.Proofs.YtmkcbbbknbahgaaW.PrintLast Go.Proofs.YtmkcbbbknbahgaaW.PrintMore
set_option linter.unusedVariables false

def Rising (l : List Int) : Prop := ∀ i, i + 1 < l.length → l.getD i 0 ≤ l.getD (i + 1) 0

instance (l : List Int) : Decidable (Rising l) := decidable_of_iff (∀ i, i < l.length → i + 1 < l.length → l.getD i 0 ≤ l.getD (i + 1) 0) ⟨fun h i hi => h i (by omega) hi, fun h i _ hi => h i hi⟩

def IsArena (m : List (List Int)) (a s n c u : Int) (l : List Int) : Prop := IsMem m ∧ OnMem m a s n c ∧ 0 ≤ u ∧ u ≤ n ∧ l.length ≤ 8 ∧ (∀ x ∈ l, 0 ≤ x ∧ x ≤ u) ∧ Rising l

instance (m : List (List Int)) (a s n c u : Int) (l : List Int) : Decidable (IsArena m a s n c u l) := by unfold IsArena; infer_instance

theorem rdn {l : List Int} (i : Nat) : rd l (i : Int) = l.getD i 0 := by unfold rd; rw [Int.toNat_natCast]

theorem getD_get {l : List Int} {i : Nat} (h : i < l.length) : l.getD i 0 = l[i] := by rw [List.getD_eq_getElem?_getD, List.getElem?_eq_getElem h]; rfl

theorem l8Arena_is {m : List (List Int)} {a s n c u : Int} {l : List Int} (h : m.length ≤ maxLen) (hz : ∀ z ∈ m, z.length ≤ maxLen) (hl : l.length ≤ maxLen) : Ter (fun k => spec_l8Arena.f k m a s n c u l) (decide (IsArena m a s n c u l)) := by
  rw [maxLen_] at hl
  unfold spec_l8Arena.f
  refine (l2Window_is h hz).bind ?_
  by_cases h1 : IsMem m ∧ OnMem m a s n c
  · refine Ter.ifp (by simpa using h1) ?_
    simp only [in_is, Option.bind_some]
    by_cases h2 : 0 ≤ u ∧ u ≤ n
    · refine Ter.ifp (by simpa using h2) (Ter.succ ?_)
      simp only [spec_l8Arena.j0]
      by_cases h3 : (l.length : Int) > 8
      · refine Ter.ifp (by simpa using h3) ((Ter.ret _).eq ?_)
        symm
        simp only [decide_eq_false_iff_not]
        intro h4
        have := h4.2.2.2.2.1
        omega
      · refine Ter.ifn (by simpa using h3) ?_
        have key := down_ (Q := fun i => (∀ j, j < i → ∀ hj : j < l.length, 0 ≤ l[j] ∧ l[j] ≤ u) → (∀ j, j + 1 < i → j + 1 < l.length → l.getD j 0 ≤ l.getD (j + 1) 0) → Ter (fun k => spec_l8Arena.l0 k (i : Int) m a s n c u l) (decide (IsArena m a s n c u l))) l.length
          (fun ok1 ok2 => by
            refine Ter.succ ?_
            simp only [spec_l8Arena.l0]
            refine Ter.ifn (by omega) ((Ter.ret _).eq ?_)
            symm
            simp only [decide_eq_true_eq]
            refine ⟨h1.1, h1.2, h2.1, h2.2, by omega, fun x hx => ?_, fun i hi => ok2 i hi hi⟩
            obtain ⟨j, hj, rfl⟩ := List.getElem_of_mem hx
            exact ok1 j hj hj)
          (fun i hi ih ok1 ok2 => by
            refine Ter.succ ?_
            simp only [spec_l8Arena.l0, in_is, Option.bind_some]
            refine Ter.ifp (by omega) (Ter.ifp (by omega) ?_)
            rw [rd_at hi]
            by_cases h4 : 0 ≤ l[i] ∧ l[i] ≤ u
            · refine Ter.ifp (by simpa using h4) ?_
              have ok1' : ∀ j, j < i + 1 → ∀ hj : j < l.length, 0 ≤ l[j] ∧ l[j] ≤ u := fun j hj hj2 => by
                by_cases hji : j = i
                · subst hji; exact h4
                · exact ok1 j (by omega) hj2
              by_cases h5 : (i : Int) > 0
              · rw [w64 (n := (i : Int) - 1) (by omega) (by omega)]
                refine Ter.ifp h5 (Ter.ifp (by omega) (Ter.ifp (by omega) ?_))
                obtain ⟨p, rfl⟩ : ∃ p, i = p + 1 := ⟨i - 1, by omega⟩
                have e : ((p + 1 : Nat) : Int) - 1 = (p : Int) := by omega
                rw [e, rd_at (xs := l) (i := p) (by omega)]
                by_cases h6 : l[p] > l[p + 1]
                · refine Ter.ifp h6 ((Ter.ret _).eq ?_)
                  symm
                  simp only [decide_eq_false_iff_not]
                  intro h7
                  have := h7.2.2.2.2.2.2 p hi
                  rw [getD_get hi, getD_get (by omega)] at this
                  omega
                · refine Ter.ifn h6 ?_
                  rw [w64s hi (by omega)]
                  refine ih ok1' (fun j hj hj2 => ?_)
                  by_cases hjp : j = p
                  · subst hjp; rw [getD_get hj2, getD_get (by omega)]; omega
                  · exact ok2 j (by omega) hj2
              · refine Ter.ifn h5 ?_
                rw [w64s hi (by omega)]
                exact ih ok1' (fun j hj hj2 => by omega)
            · refine Ter.ifn (by simpa using h4) ((Ter.ret _).eq ?_)
              symm
              simp only [decide_eq_false_iff_not]
              intro h7
              exact h4 (h7.2.2.2.2.2.1 _ (List.getElem_mem hi))) 0 (by omega)
        exact key (fun j hj => by omega) (fun j hj => by omega)
    · refine Ter.ifn (by simpa using h2) (Ter.succ ?_)
      simp only [spec_l8Arena.j0, if_true]
      refine (Ter.ret _).eq ?_
      symm
      simp only [decide_eq_false_iff_not]
      exact fun h3 => h2 ⟨h3.2.2.1, h3.2.2.2.1⟩
  · refine Ter.ifn (by simpa using h1) (Ter.succ ?_)
    simp only [spec_l8Arena.j0, if_true]
    refine (Ter.ret _).eq ?_
    symm
    simp only [decide_eq_false_iff_not]
    exact fun h3 => h1 ⟨h3.1, h3.2.1⟩

theorem less_is (a b : Int) : cmp_Less_int.f a b = some (decide (a < b)) := by simp [cmp_Less_int.f, cmp_isNaN_int.f]

theorem allWithin_is {l : List Int} {a b : Int} (hl : l.length ≤ maxLen) : Ter (fun k => impl_allWithin.f k l a b) (decide (∀ x ∈ l, a ≤ x ∧ x ≤ b)) := by
  rw [maxLen_] at hl
  unfold impl_allWithin.f
  have key := down_ (Q := fun i => (∀ j, j < i → ∀ hj : j < l.length, a ≤ l[j] ∧ l[j] ≤ b) → Ter (fun k => impl_allWithin.l0 k a b l (l.length : Int) (i : Int)) (decide (∀ x ∈ l, a ≤ x ∧ x ≤ b))) l.length
    (fun ok => by
      refine Ter.succ ?_
      simp only [impl_allWithin.l0]
      refine Ter.ifn (by omega) ((Ter.ret _).eq ?_)
      symm
      simp only [decide_eq_true_eq]
      intro x hx
      obtain ⟨j, hj, rfl⟩ := List.getElem_of_mem hx
      exact ok j hj hj)
    (fun i hi ih ok => by
      refine Ter.succ ?_
      simp only [impl_allWithin.l0, within_is, Option.bind_some]
      refine Ter.ifp (by omega) (Ter.ifp (by omega) (Ter.ifp (by omega) ?_))
      rw [rd_at hi]
      by_cases h4 : a ≤ l[i] ∧ l[i] ≤ b
      · refine Ter.ifp (by simpa using h4) ?_
        rw [w64s hi (by omega)]
        exact ih (fun j hj hj2 => by
          by_cases hji : j = i
          · subst hji; exact h4
          · exact ok j (by omega) hj2)
      · refine Ter.ifn (by simpa using h4) ((Ter.ret _).eq ?_)
        symm
        simp only [decide_eq_false_iff_not]
        exact fun h => h4 (h _ (List.getElem_mem hi))) 0 (by omega)
  exact key (fun j hj => by omega)

theorem isSorted_is {l : List Int} (hl : l.length ≤ maxLen) : Ter (fun k => slices_IsSorted_int_int.f k l) (decide (Rising l)) := by
  rw [maxLen_] at hl
  unfold slices_IsSorted_int_int.f
  rw [w64 (by omega) (by omega)]
  have key : ∀ (i : Nat), i < l.length → (∀ j, i ≤ j → j + 1 < l.length → l.getD j 0 ≤ l.getD (j + 1) 0) → Ter (fun k => slices_IsSorted_int_int.l0 k l (i : Int)) (decide (Rising l)) := by
    intro i
    induction i with
    | zero =>
      intro h ok
      refine Ter.succ ?_
      simp only [slices_IsSorted_int_int.l0]
      refine Ter.ifn (by omega) ((Ter.ret _).eq ?_)
      symm
      simp only [decide_eq_true_eq]
      exact fun j hj => ok j (by omega) hj
    | succ p ih =>
      intro h ok
      refine Ter.succ ?_
      simp only [slices_IsSorted_int_int.l0, less_is, Option.bind_some]
      have e : ((p + 1 : Nat) : Int) - 1 = (p : Int) := by omega
      rw [w64 (by omega) (by omega), e]
      refine Ter.ifp (by omega) (Ter.ifp (by omega) (Ter.ifp (by omega) (Ter.ifp (by omega) (Ter.ifp (by omega) ?_))))
      rw [rdn, rdn]
      by_cases h6 : l.getD (p + 1) 0 < l.getD p 0
      · refine Ter.ifp (by simpa using h6) ((Ter.ret _).eq ?_)
        symm
        simp only [decide_eq_false_iff_not]
        intro h7
        have := h7 p h
        omega
      · refine Ter.ifn (by simpa using h6) ?_
        refine ih (by omega) (fun j hj hj2 => ?_)
        by_cases hjp : j = p
        · subst hjp; omega
        · exact ok j (by omega) hj2
  rcases Nat.eq_zero_or_pos l.length with h0 | h0
  · refine Ter.succ ?_
    simp only [slices_IsSorted_int_int.l0]
    refine Ter.ifn (by omega) ((Ter.ret _).eq ?_)
    symm
    simp only [decide_eq_true_eq]
    exact fun j hj => by omega
  · have e : (l.length : Int) - 1 = ((l.length - 1 : Nat) : Int) := by omega
    rw [e]
    exact key _ (by omega) (fun j hj hj2 => by omega)

theorem isArena_is {m : List (List Int)} {a s n c u : Int} {l : List Int} (h : m.length ≤ maxLen) (hl : l.length ≤ maxLen) (hw : wfW ⟨a, s, n, c⟩) : Ter (fun k => impl_IsArena.f k m a s n c u l) (decide (IsArena m a s n c u l)) := by
  have hl' := hl
  rw [maxLen_] at hl'
  unfold impl_IsArena.f
  refine (areOn_is h (fun w hw1 => by simp only [List.mem_singleton] at hw1; subst hw1; exact hw)).bind ?_
  by_cases h1 : AreOn m [⟨a, s, n, c⟩]
  · refine Ter.ifp (by simpa using h1) ?_
    have h1' : IsMem m ∧ OnMem m a s n c := ⟨h1.1, h1.2 _ (List.mem_singleton.2 rfl)⟩
    simp only [within_is, Option.bind_some]
    by_cases h2 : 0 ≤ u ∧ u ≤ n
    · refine Ter.ifp (by simpa using h2) (Ter.succ ?_)
      simp only [impl_IsArena.j0]
      by_cases h3 : (l.length : Int) > 8
      · refine Ter.ifp (by simpa using h3) ((Ter.ret _).eq ?_)
        symm
        simp only [decide_eq_false_iff_not]
        intro h4
        have := h4.2.2.2.2.1
        omega
      · refine Ter.ifn (by simpa using h3) ((allWithin_is hl).bind ?_)
        by_cases h4 : ∀ x ∈ l, 0 ≤ x ∧ x ≤ u
        · refine Ter.ifp (by simpa using h4) ((isSorted_is hl).bind ((Ter.ret _).eq ?_))
          simp only [decide_eq_decide]
          constructor
          · intro h5; exact ⟨h1'.1, h1'.2, h2.1, h2.2, by omega, h4, h5⟩
          · intro h5; exact h5.2.2.2.2.2.2
        · refine Ter.ifn (by simpa using h4) ((Ter.ret _).eq ?_)
          symm
          simp only [decide_eq_false_iff_not]
          exact fun h5 => h4 h5.2.2.2.2.2.1
    · refine Ter.ifn (by simpa using h2) (Ter.succ ?_)
      simp only [impl_IsArena.j0, if_true]
      refine (Ter.ret _).eq ?_
      symm
      simp only [decide_eq_false_iff_not]
      exact fun h3 => h2 ⟨h3.2.2.1, h3.2.2.2.1⟩
  · refine Ter.ifn (by simpa using h1) (Ter.succ ?_)
    simp only [impl_IsArena.j0, if_true]
    refine (Ter.ret _).eq ?_
    symm
    simp only [decide_eq_false_iff_not]
    exact fun h3 => h1 ⟨h3.1, fun w hw1 => by simp only [List.mem_singleton] at hw1; subst hw1; exact h3.2.1⟩

theorem l1Own_is {l : List Int} (h : Small l) : spec_l1Own.f l = some l := by
  have := h.le
  simp only [spec_l1Own.f, Option.bind_some, List.nil_append, List.length_nil]
  rw [if_pos (by omega)]

theorem l8Own_is {m : List (List Int)} {a s n c u v : Int} {l : List Int} (h : IsMem m) (hl : Small l) : Ter (fun k => spec_l8Own.f k m a s n c u l v) (m, a, s, n, c, v, l) := by
  unfold spec_l8Own.f
  exact (l2Own_is h).bind (Ter.bind (F := fun _ => spec_l1Own.f l) (Ter.const (l1Own_is hl)) (Ter.ret _))

theorem arenaOwn_is {m : List (List Int)} {a s n c u : Int} {l : List Int} (h : IsMem m) (hl : Small l) : Ter (fun k => impl_Arena_own.f k m a s n c u l) (m, a, s, n, c, u, l) := by
  unfold impl_Arena_own.f
  have := hl.le
  exact (memOwn_is h).bind (Ter.bind (F := fun _ => slices_Clone_int.f l) (a := l) (Ter.const (by unfold slices_Clone_int.f; rw [if_pos (by omega)])) (Ter.ret _))
end Go.Proofs.Ytmkcbbbknbahgaa.P
namespace Go.Proofs.Ytmkcbbbknbahgaa.P
open Go.RowKit Go.Proofs.YtmkcbbbknbahgaaW.PrintWords Go.Proofs.YtmkcbbbknbahgaaW.PrintLast Go.Proofs.YtmkcbbbknbahgaaW.PrintMore
set_option linter.unusedVariables false

/-- What is asked is valid. -/
def OkAsk (q : S74) : Prop := 0 ≤ q.f0 ∧ 1 ≤ q.f1 ∧ q.f1 ≤ 16

theorem askedOk_is (q : S74) : askedOk q = true ↔ OkAsk q := by
  unfold askedOk OkAsk
  simp only [Bool.and_eq_true, decide_eq_true_eq]

/-- The beginning, without wraps. -/
def begN (u al : Int) : Int := (u + al - 1) / al * al

theorem begN_le {u al : Int} (h0 : 0 ≤ u) (h1 : 1 ≤ al) : u ≤ begN u al ∧ begN u al ≤ u + al - 1 := by
  unfold begN
  have h2 := Int.ediv_mul_add_emod (u + al - 1) al
  have h3 := Int.emod_nonneg (u + al - 1) (show al ≠ 0 by omega)
  have h4 := Int.emod_lt_of_pos (u + al - 1) (show 0 < al by omega)
  omega

theorem beginF_is {u al : Int} (h0 : 0 ≤ u) (h1 : u ≤ 64) (h2 : 1 ≤ al) (h3 : al ≤ 16) : beginF u al = begN u al := by
  have h4 := begN_le h0 h2
  unfold beginF
  rw [w64 (n := u + al) (by omega) (by omega), w64 (n := u + al - 1) (by omega) (by omega), Int.tdiv_eq_ediv_of_nonneg (by omega)]
  have h5 : 0 ≤ (u + al - 1) / al := Int.ediv_nonneg (by omega) (by omega)
  have h6 : (u + al - 1) / al ≤ u + al - 1 := Int.ediv_le_self _ (by omega)
  rw [w64 (n := (u + al - 1) / al) (by omega) (by omega)]
  exact w64 (by unfold begN at h4; omega) (by unfold begN at h4; omega)

theorem giveRun_is (a1 a2 n : Int) (hn : n ≤ 64) : ∀ (l : List S74) (u : Int) (out : List S32), 0 ≤ u → u ≤ n → (∀ q ∈ l, OkAsk q) → (giveRun a1 a2 n l u out).2.2 = true →
    0 ≤ (giveRun a1 a2 n l u out).1 ∧ (giveRun a1 a2 n l u out).1 ≤ n ∧ (giveRun a1 a2 n l u out).2.1.map (·.f2) = out.map (·.f2) ++ l.map (·.f0) ∧ ∀ q ∈ l, q.f0 ≤ 64
  | [], u, out, h0, h1, _, _ => ⟨h0, h1, by simp [giveRun], fun q hq => by cases hq⟩
  | q :: qs, u, out, h0, h1, hq, hok => by
    obtain ⟨g1, g2, g3⟩ := hq q (List.mem_cons_self ..)
    have hb := begN_le h0 g2
    unfold giveRun at hok ⊢
    rw [beginF_is h0 (by omega) g2 g3, w64 (n := n - begN u q.f1) (by omega) (by omega)] at hok ⊢
    by_cases hc : q.f0 > n - begN u q.f1
    · rw [if_pos hc] at hok
      cases hok
    · rw [if_neg hc] at hok ⊢
      rw [w64 (n := begN u q.f1 + q.f0) (by omega) (by omega)] at hok ⊢
      obtain ⟨r1, r2, r3, r4⟩ := giveRun_is a1 a2 n hn qs (begN u q.f1 + q.f0) _ (by omega) (by omega) (fun x hx => hq x (List.mem_cons_of_mem _ hx)) hok
      refine ⟨r1, r2, by rw [r3]; simp, fun x hx => ?_⟩
      rcases List.mem_cons.1 hx with rfl | hx
      · omega
      · exact r4 x hx

theorem l8List_is {m : List (List Int)} {a s n c u : Int} {l : List Int} {ask : List S74} (h : m.length ≤ maxLen) (hz : ∀ z ∈ m, z.length ≤ maxLen) (hl : l.length ≤ maxLen) (hk : ask.length ≤ 1048576) :
    ∃ b, Ter (fun k => spec_l8List.f k m a s n c u l ask) b ∧ (b = true ↔ IsArena m a s n c u l ∧ ask.length ≤ 6 ∧ ∀ q ∈ ask, OkAsk q) := by
  unfold spec_l8List.f
  have hA : ∀ q : S74, spec_l8Asked.f q.f0 q.f1 = some (askedOk q) := fun q => by
    unfold spec_l8Asked.f askedOk
    by_cases h0 : q.f0 ≥ 0
    · rw [if_pos h0, in_is]
      simp only [Option.bind_some, decide_eq_true (show 0 ≤ q.f0 from h0), Bool.true_and, ← Bool.decide_and]
    · rw [if_neg h0, decide_eq_false (show ¬ 0 ≤ q.f0 from h0)]
      rfl
  have key := down_ (Q := fun i => (∀ j, j < i → ∀ hj : j < ask.length, OkAsk ask[j]) → ∃ b, Ter (fun k => spec_l8List.l0 k ask (i : Int) m a s n c u l) b ∧ (b = true ↔ IsArena m a s n c u l ∧ ask.length ≤ 6 ∧ ∀ q ∈ ask, OkAsk q)) ask.length
    (fun ok => by
      by_cases hg : IsArena m a s n c u l
      · refine ⟨decide ((ask.length : Int) ≤ 6), Ter.succ ?_, ?_⟩
        · simp only [spec_l8List.l0]
          exact Ter.ifn (by omega) ((l8Arena_is h hz hl).bind (Ter.ifp (by simpa using hg) (Ter.ret _)))
        · simp only [decide_eq_true_eq]
          constructor
          · intro h1
            refine ⟨hg, by omega, fun q hq => ?_⟩
            obtain ⟨j, hj, rfl⟩ := List.getElem_of_mem hq
            exact ok j hj hj
          · intro h1; omega
      · refine ⟨false, Ter.succ ?_, ?_⟩
        · simp only [spec_l8List.l0]
          exact Ter.ifn (by omega) ((l8Arena_is h hz hl).bind (Ter.ifn (by simpa using hg) (Ter.ret _)))
        · exact ⟨fun h1 => (by cases h1), fun h1 => absurd h1.1 hg⟩)
    (fun i hi ih ok => by
      by_cases hq : OkAsk ask[i]
      · obtain ⟨b, hb, hb2⟩ := ih (fun j hj hj2 => by
          by_cases hji : j = i
          · subst hji; exact hq
          · exact ok j (by omega) hj2)
        refine ⟨b, Ter.succ ?_, hb2⟩
        simp only [spec_l8List.l0]
        rw [show rd_T74 ask (i : Int) = ask[i] from getD_at hi, hA, w64s hi (by omega)]
        exact Ter.ifp (by omega) (Ter.ifp (by omega) (Ter.ifp (c := askedOk ask[i] = true) ((askedOk_is _).2 hq) hb))
      · refine ⟨false, Ter.succ ?_, ⟨fun h1 => (by cases h1), fun h1 => absurd (h1.2.2 _ (List.getElem_mem hi)) hq⟩⟩
        simp only [spec_l8List.l0]
        rw [show rd_T74 ask (i : Int) = ask[i] from getD_at hi, hA]
        exact Ter.ifp (by omega) (Ter.ifp (by omega) (Ter.ifn (c := askedOk ask[i] = true) (fun h1 => hq ((askedOk_is _).1 h1)) (Ter.ret _)))) 0 (by omega)
  exact key (fun j hj => by omega)

theorem areAsked_is {m : List (List Int)} {a s n c u : Int} {l : List Int} {ask : List S74} (h : m.length ≤ maxLen) (hl : l.length ≤ maxLen) (hw : wfW ⟨a, s, n, c⟩) :
    ∃ b, Ter (fun k => impl_areAsked.f k m a s n c u l ask) b ∧ (b = true ↔ IsArena m a s n c u l ∧ ask.length ≤ 6 ∧ ∀ q ∈ ask, OkAsk q) := by
  refine ⟨_, (isArena_is h hl hw).bind (Ter.ret _), ?_⟩
  simp only [Bool.and_eq_true, decide_eq_true_eq, List.all_eq_true, askedOk_is]
  constructor
  · rintro ⟨⟨h1, h2⟩, h3⟩; exact ⟨h1, by omega, h3⟩
  · rintro ⟨h1, h2, h3⟩; exact ⟨⟨h1, by omega⟩, h3⟩
end Go.Proofs.Ytmkcbbbknbahgaa.P
namespace Go.Proofs.Ytmkcbbbknbahgaa.P
open Go.RowKit Go.Proofs.YtmkcbbbknbahgaaW.PrintWords Go.Proofs.YtmkcbbbknbahgaaW.PrintLast Go.Proofs.YtmkcbbbknbahgaaW.PrintMore
set_option linter.unusedVariables false

def askOf (x : S67) : S74 := ⟨x.f0, x.f1⟩

theorem szAskedS_is {l : List S67} {a : Int} (h0 : 0 ≤ a) (h1 : a ≤ 1048576) (hl : l.length ≤ maxLen) : ∃ r, laws_szAskedS.f l a = some r ∧ (r < 0 ∨ (0 ≤ r ∧ r ≤ a ∧ Small l)) := by
  rw [maxLen_] at hl
  unfold laws_szAskedS.f Small
  rw [w64 (by omega) (by omega)]
  by_cases h : a - (l.length : Int) < 0
  · rw [if_pos h]; exact ⟨_, rfl, .inl (by omega)⟩
  · rw [if_neg h]; exact ⟨_, rfl, .inr (by omega)⟩

theorem toAskedS_is {l : List S67} (h : Small l) : Ter (fun k => laws_toAskedS.f k l) (l.map askOf) := by
  have hl := h.le
  unfold laws_toAskedS.f
  refine Ter.ifp (by omega) (Ter.ifp (by omega) ?_)
  have hm : (l.map askOf).length = l.length := by simp
  have key := down_ (Q := fun i => Ter (fun k => laws_toAskedS.l0 k l ((l.map askOf).take i ++ List.replicate ((l.map askOf).length - i) z74) (i : Int)) (l.map askOf)) (l.map askOf).length
    (Ter.succ (by simp only [laws_toAskedS.l0]; exact Ter.ifn (by omega) ((Ter.ret _).eq fill_all)))
    (fun i hi ih => by
      refine Ter.succ ?_
      simp only [laws_toAskedS.l0]
      have hi' : i < l.length := by omega
      refine Ter.ifp (by omega) (Ter.ifp (by omega) ?_)
      rw [show rd_T67 l (i : Int) = l[i] from getD_at hi']
      refine Ter.bind (F := fun _ => laws_toAsked.f _ _) (Ter.ret _) (Ter.ifp (by rw [fill_len (by omega)]; omega) ?_)
      rw [w64s hi (by omega)]
      have e := fill_set (z := z74) hi
      rw [show (l.map askOf)[i] = askOf l[i] by simp] at e
      show Ter (fun k => laws_toAskedS.l0 k l (List.set _ _ (askOf l[i])) _) _
      rw [e]
      exact ih) 0 (by omega)
  simpa using key

theorem eqAskedS_is {l : List S74} (h : l.length ≤ maxLen) : Ter (fun k => laws_eqAskedS.f k l l) true := by
  rw [maxLen_] at h
  unfold laws_eqAskedS.f
  refine Ter.ifp rfl ?_
  exact down_ (Q := fun i => Ter (fun k => laws_eqAskedS.l0 k l l (i : Int)) true) l.length
    (Ter.succ (by simp only [laws_eqAskedS.l0]; exact Ter.ifn (by omega) (Ter.ret _)))
    (fun i hi ih => by
      refine Ter.succ ?_
      simp only [laws_eqAskedS.l0]
      refine Ter.ifp (by omega) (Ter.ifp (by omega) (Ter.ifp (by omega) ?_))
      refine Ter.bind (F := fun _ => laws_eqAsked.f _ _ _ _) (a := true) (Ter.const (by simp [laws_eqAsked.f])) (Ter.ifp rfl ?_)
      rw [w64s hi (by omega)]
      exact ih) 0 (by omega)
end Go.Proofs.Ytmkcbbbknbahgaa.P
namespace Go.Proofs.Ytmkcbbbknbahgaa.P
open Go.RowKit Go.Proofs.YtmkcbbbknbahgaaW.PrintWords Go.Proofs.YtmkcbbbknbahgaaW.PrintLast Go.Proofs.YtmkcbbbknbahgaaW.PrintMore
set_option linter.unusedVariables false

instance (q : S74) : Decidable (OkAsk q) := by unfold OkAsk; infer_instance

theorem l8Asked_is (q0 q1 : Int) : spec_l8Asked.f q0 q1 = some (decide (OkAsk ⟨q0, q1⟩)) := by
  unfold spec_l8Asked.f
  by_cases h0 : q0 ≥ 0
  · rw [if_pos h0, in_is]
    exact congrArg some (decide_eq_decide.2 ⟨fun h => ⟨h0, h⟩, fun h => h.2⟩)
  · rw [if_neg h0, decide_eq_false (show ¬ OkAsk ⟨q0, q1⟩ from fun h => h0 h.1)]

theorem IsArena.bounds {m : List (List Int)} {a s n c u : Int} {l : List Int} (h : IsArena m a s n c u l) : 0 ≤ s ∧ s ≤ 64 ∧ 0 ≤ n ∧ n ≤ 64 ∧ 0 ≤ u ∧ u ≤ n ∧ 0 ≤ a ∧ a < 16 := by
  obtain ⟨g1, ⟨p1, p2, p3, p4, p5, p6⟩, g3, g4, _⟩ := h
  obtain ⟨ai, rfl⟩ : ∃ ai : Nat, a = (ai : Int) := ⟨a.toNat, by omega⟩
  rw [getD_at (show ai < m.length by omega)] at p4
  have := g1.at (show ai < m.length by omega)
  have := g1.1
  omega

theorem IsArena.grow {m : List (List Int)} {a s n c u v : Int} {l : List Int} (h : IsArena m a s n c u l) (h1 : u ≤ v) (h2 : v ≤ n) : IsArena m a s n c v l := by
  obtain ⟨g1, g2, g3, g4, g5, g6, g7⟩ := h
  exact ⟨g1, g2, by omega, h2, g5, fun x hx => ⟨(g6 x hx).1, by have := (g6 x hx).2; omega⟩, g7⟩

theorem specGive_is {m : List (List Int)} {a s n c u q0 q1 : Int} {l : List Int} (h : m.length ≤ maxLen) (hz : ∀ z ∈ m, z.length ≤ maxLen) (hl : l.length ≤ maxLen) (hs : IsMem m → Small l) :
    Ter (fun k => spec_Give.f k m a s n c u l q0 q1) (if IsArena m a s n c u l ∧ OkAsk ⟨q0, q1⟩ ∧ q0 ≤ n - begN u q1 then (m, a, s, n, c, begN u q1 + q0, l, a, s + begN u q1, q0, q0, true) else ([], 0, 0, 0, 0, 0, [], 0, 0, 0, 0, false)) := by
  unfold spec_Give.f
  refine (l8Arena_is h hz hl).bind ?_
  by_cases hA : IsArena m a s n c u l
  · refine Ter.ifp (by simpa using hA) ?_
    simp only [l8Asked_is, Option.bind_some]
    by_cases hq : OkAsk ⟨q0, q1⟩
    · refine Ter.ifp (by simpa using hq) ?_
      obtain ⟨b1, b2, b3, b4, b5, b6, b7, b8⟩ := hA.bounds
      obtain ⟨c1, c2, c3⟩ := hq
      simp only [] at c1 c2 c3
      have hb := begN_le b5 c2
      have hF : spec_l8First.f u q1 = some (begN u q1) := by
        unfold spec_l8First.f
        rw [if_neg (by omega)]
        exact congrArg some (beginF_is b5 (by omega) c2 c3)
      unfold spec_l8Fits.f
      simp only [hF, Option.bind_some]
      rw [w64 (n := n - begN u q1) (by omega) (by omega)]
      by_cases hc : q0 ≤ n - begN u q1
      · refine Ter.eq ?_ (if_pos (show IsArena m a s n c u l ∧ OkAsk ⟨q0, q1⟩ ∧ q0 ≤ n - begN u q1 from ⟨hA, ⟨c1, c2, c3⟩, hc⟩)).symm
        simp only [if_pos (show begN u q1 ≤ n by omega), Option.bind_some, decide_eq_true hc, Bool.not_true]
        refine Ter.succ ?_
        simp only [spec_Give.j0, hF, Option.bind_some]
        refine Ter.ifn (by simp) ((l8Own_is hA.1 (hs hA.1)).bind ?_)
        simp only [spec_l2Slice.f, Option.bind_some]
        rw [w64 (n := begN u q1 + q0) (by omega) (by omega), w64 (n := s + begN u q1) (by omega) (by omega), w64 (n := begN u q1 + q0 - begN u q1) (by omega) (by omega), show begN u q1 + q0 - begN u q1 = q0 by omega]
        exact Ter.ret _
      · refine Ter.eq ?_ (if_neg (show ¬ (IsArena m a s n c u l ∧ OkAsk ⟨q0, q1⟩ ∧ q0 ≤ n - begN u q1) from fun h => hc h.2.2)).symm
        by_cases h2 : begN u q1 ≤ n
        · simp only [if_pos h2, Option.bind_some, decide_eq_false hc, Bool.not_false]
          refine Ter.succ ?_
          simp only [spec_Give.j0]
          exact Ter.ifp (by first | rfl | trivial) (Ter.ret _)
        · simp only [if_neg h2, Option.bind_some, Bool.not_false]
          refine Ter.succ ?_
          simp only [spec_Give.j0]
          exact Ter.ifp (by first | rfl | trivial) (Ter.ret _)
    · rw [if_neg (fun h => hq h.2.1)]
      refine Ter.ifn (by simpa using hq) (Ter.succ ?_)
      simp only [spec_Give.j0]
      exact Ter.ifp (by first | rfl | trivial) (Ter.ret _)
  · rw [if_neg (fun h => hA h.1)]
    refine Ter.ifn (by simpa using hA) (Ter.succ ?_)
    simp only [spec_Give.j0]
    exact Ter.ifp (by first | rfl | trivial) (Ter.ret _)

/-- What GiveAll answers. -/
def givesOf (m : List (List Int)) (a s n c u : Int) (l : List Int) (ask : List S74) : List (List Int) × Int × Int × Int × Int × Int × List Int × List S32 × Bool :=
  if (giveRun a s n ask u []).2.2 = true then (m, a, s, n, c, (giveRun a s n ask u []).1, l, (giveRun a s n ask u []).2.1, true) else ([], 0, 0, 0, 0, 0, [], [], false)

theorem specGiveAll_is {m : List (List Int)} {a s n c u : Int} {l : List Int} {ask : List S74} (h : m.length ≤ maxLen) (hz : ∀ z ∈ m, z.length ≤ maxLen) (hl : l.length ≤ maxLen) (hs : Small l) (hk : ask.length ≤ 1048576) :
    Ter (fun k => spec_GiveAll.f k m a s n c u l ask) (if IsArena m a s n c u l ∧ ask.length ≤ 6 ∧ ∀ q ∈ ask, OkAsk q then givesOf m a s n c u l ask else ([], 0, 0, 0, 0, 0, [], [], false)) := by
  unfold spec_GiveAll.f
  obtain ⟨b, hb, hb'⟩ := l8List_is (a := a) (s := s) (n := n) (c := c) (u := u) h hz hl hk
  simp only [Option.bind_some]
  refine hb.bind ?_
  cases b with
  | false =>
    rw [if_neg (fun h => by have := hb'.2 h; cases this)]
    exact Ter.ifn (by simp) (Ter.ret _)
  | true =>
    obtain ⟨hA, h6, hq⟩ := hb'.1 rfl
    rw [if_pos ⟨hA, h6, hq⟩]
    refine Ter.ifp rfl ((l8Own_is hA.1 hs).bind ?_)
    have key := down_ (Q := fun i => ∀ (v : Int) (out : List S32), IsArena m a s n c v l → out.length = i → Ter (fun k => spec_GiveAll.l0 k ask out (i : Int) m a s n c v l) (if (giveRun a s n (ask.drop i) v out).2.2 = true then (m, a, s, n, c, (giveRun a s n (ask.drop i) v out).1, l, (giveRun a s n (ask.drop i) v out).2.1, true) else ([], 0, 0, 0, 0, 0, [], [], false))) ask.length
      (fun v out hv ho => Ter.succ (by simp only [spec_GiveAll.l0]; refine Ter.ifn (by simp) ((Ter.ret _).eq ?_); rw [List.drop_length]; rfl))
      (fun i hi ih v out hv ho => by
        refine Ter.succ ?_
        simp only [spec_GiveAll.l0]
        rw [show rd_T74 ask (i : Int) = ask[i] from getD_at hi, List.drop_eq_getElem_cons hi, w64s hi (by omega)]
        have hqi := hq _ (List.getElem_mem hi)
        have h16 : (ask[i]).f1 ≤ 16 := hqi.2.2
        have h16' : 0 ≤ (ask[i]).f0 := hqi.1
        obtain ⟨b1, b2, b3, b4, b5, b6, b7, b8⟩ := hv.bounds
        have hbn := begN_le b5 hqi.2.1
        have hbF := beginF_is b5 (by omega) hqi.2.1 hqi.2.2
        refine Ter.ifp (by omega) (Ter.ifp (by omega) ((specGive_is h hz hl (fun _ => hs)).bind ?_))
        unfold giveRun
        rw [hbF, w64 (n := n - begN v (ask[i]).f1) (by omega) (by omega)]
        by_cases hc : (ask[i]).f0 > n - begN v (ask[i]).f1
        · rw [if_pos hc, if_neg (fun hh => by have := hh.2.2; omega)]
          exact Ter.ifn (by simp) (Ter.ret _)
        · rw [if_neg hc, if_pos ⟨hv, hqi, by omega⟩]
          have h0 := hqi.1
          refine Ter.ifp rfl (Ter.ifp (by omega) ?_)
          rw [w64 (n := begN v (ask[i]).f1 + (ask[i]).f0) (by omega) (by omega), w64 (n := s + begN v (ask[i]).f1) (by omega) (by omega)]
          exact ih (begN v (ask[i]).f1 + (ask[i]).f0) _ (hv.grow (by omega) (by omega)) (by simp; omega)) 0 (by omega) u [] hA rfl
    simpa [givesOf] using key

theorem implGiveAll_is {m : List (List Int)} {a s n c u : Int} {l : List Int} {ask : List S74} (h : m.length ≤ maxLen) (hl : l.length ≤ maxLen) (hs : Small l) (hw : wfW ⟨a, s, n, c⟩) (hk : ask.length ≤ 1048576) :
    Ter (fun k => impl_GiveAll.f k m a s n c u l ask) (if IsArena m a s n c u l ∧ ask.length ≤ 6 ∧ ∀ q ∈ ask, OkAsk q then givesOf m a s n c u l ask else ([], 0, 0, 0, 0, 0, [], [], false)) := by
  unfold impl_GiveAll.f
  obtain ⟨b, hb, hb'⟩ := areAsked_is (u := u) (ask := ask) h hl hw
  refine hb.bind ?_
  cases b with
  | false =>
    rw [if_neg (fun h => by have := hb'.2 h; cases this)]
    exact Ter.ifn (by simp) (Ter.ret _)
  | true =>
    obtain ⟨hA, h6, hq⟩ := hb'.1 rfl
    rw [if_pos ⟨hA, h6, hq⟩]
    refine Ter.ifp rfl ((arenaOwn_is hA.1 hs).bind (Ter.ifp ⟨fun q hx => by have := (hq q hx).2.1; omega, hk⟩ ?_))
    unfold givesOf
    by_cases hok : (giveRun a s n ask u []).2.2 = true
    · exact (Ter.ifp hok (Ter.ret _)).eq (if_pos hok).symm
    · exact (Ter.ifn hok (Ter.ret _)).eq (if_neg hok).symm

theorem givesOf_small {m : List (List Int)} {a s n c u : Int} {l : List Int} {ask : List S74} {P : Prop} [Decidable P] (hm : Small m) (hz : ∀ z ∈ m, Small z) (hl : Small l) (h6 : P → IsArena m a s n c u l ∧ ask.length ≤ 6 ∧ ∀ q ∈ ask, OkAsk q) :
    ∃ m1 a1 s1 n1 c1 u1 l1 ws b, (if P then givesOf m a s n c u l ask else ([], 0, 0, 0, 0, 0, [], [], false)) = (m1, a1, s1, n1, c1, u1, l1, ws, b) ∧ Small m1 ∧ (∀ z ∈ m1, Small z) ∧ Small l1 ∧ ws.length ≤ 6 := by
  by_cases hP : P
  · rw [if_pos hP]
    unfold givesOf
    by_cases hok : (giveRun a s n ask u []).2.2 = true
    · rw [if_pos hok]
      obtain ⟨hA, h6', hq⟩ := h6 hP
      obtain ⟨b1, b2, b3, b4, b5, b6, b7, b8⟩ := hA.bounds
      have t := (giveRun_is a s n b4 ask u [] b5 b6 hq hok).2.2.1
      have tl : (giveRun a s n ask u []).2.1.length = ask.length := by have := congrArg List.length t; simpa using this
      exact ⟨_, _, _, _, _, _, _, _, _, rfl, hm, hz, hl, by omega⟩
    · rw [if_neg hok]
      exact ⟨_, _, _, _, _, _, _, _, _, rfl, by simp [Small], by simp, by simp [Small], by simp⟩
  · rw [if_neg hP]
    exact ⟨_, _, _, _, _, _, _, _, _, rfl, by simp [Small], by simp, by simp [Small], by simp⟩
end Go.Proofs.Ytmkcbbbknbahgaa.P
namespace Go.Proofs.Ytmkcbbbknbahgaa.P
open Go.RowKit Go.Proofs.YtmkcbbbknbahgaaW.PrintWords Go.Proofs.YtmkcbbbknbahgaaW.PrintLast Go.Proofs.YtmkcbbbknbahgaaW.PrintMore
set_option linter.unusedVariables false

theorem markAskedS_is {l : List S74} {a : Int} (h0 : 0 ≤ a) (hl : l.length ≤ 4294967296) (h1 : a + 2 * l.length ≤ 9223372036854775807) : ∃ y, Ter (fun k => laws_markAskedS.f k l a) (a + 2 * l.length, y) := by
  unfold laws_markAskedS.f
  have key := down_ (Q := fun i => ∀ y : List S74, y.length = l.length → ∃ y', Ter (fun k => laws_markAskedS.l0 k y (a + 2 * i) (i : Int)) (a + 2 * l.length, y')) l.length
    (fun y hy => ⟨y, Ter.succ (by simp only [laws_markAskedS.l0]; exact Ter.ifn (by omega) (Ter.ret _))⟩)
    (fun i hi ih y hy => by
      obtain ⟨y', hm⟩ := ih ((y.set i ⟨a + 2 * i, (rd_T74 y (i : Int)).f1⟩).set i ⟨(rd_T74 (y.set i ⟨a + 2 * i, (rd_T74 y (i : Int)).f1⟩) (i : Int)).f0, a + 2 * i + 1⟩) (by simpa using hy)
      have e : (a + 2 * (i : Int)) + 1 + 1 = a + 2 * ((i + 1 : Nat) : Int) := by omega
      refine ⟨y', Ter.succ ?_⟩
      simp only [laws_markAskedS.l0, Option.bind_some, Int.toNat_natCast]
      refine Ter.ifp (by omega) (Ter.ifp (by omega) ?_)
      rw [w64s hi (by omega), w64 (n := a + 2 * i + 1) (by omega) (by omega), w64 (n := a + 2 * i + 1 + 1) (by omega) (by omega), e]
      exact hm) 0 (by omega) l rfl
  obtain ⟨y, hm⟩ := key
  exact ⟨y, by simpa using hm⟩

theorem FnExactGiveAll.pure : FnExactGiveAll.Pure := by
  intro m a s n c u l l1 ⟨hm1, hm2⟩ ha hs hn hc hu ⟨hl1, hl2⟩ ⟨hk1, hk2⟩
  have hm2' : ∀ z ∈ m, z.length ≤ maxLen := fun z hz => (hm2 z hz).1
  obtain ⟨r, hr, h⟩ := szArena_is (a := a) (s := s) (n := n) (c := c) (u := u) ⟨hm1, hm2'⟩ hl1 (t := 1048576) (by omega) (by omega)
  rcases h with h | ⟨h, h', hs1, hs2, hs3⟩
  · obtain ⟨K, hK⟩ := hr
    exact .inr (.inl ⟨K, r, hK K (Nat.le_refl _), h⟩)
  obtain ⟨r2, hr2, h2⟩ := szAskedS_is h h' hk1
  rcases h2 with h2 | ⟨h2, _, hs4⟩
  · obtain ⟨K, hK⟩ := hr
    exact .inr (.inr ⟨K, r, r2, hK K (Nat.le_refl _), by omega, hr2, h2⟩)
  · have hw : wfW ⟨a, s, n, c⟩ := ⟨wf64_of ha, wf64_of hs, wf64_of hn, wf64_of hc⟩
    have hto := toArena_is (a := a) (s := s) (n := n) (c := c) (u := u) hs1 hs2 hs3
    have hto2 := toAskedS_is hs4
    have hsm : (l1.map askOf).length ≤ 1048576 := by simpa using hs4.le
    generalize l1.map askOf = ask at hto2 hsm
    have spec := specGiveAll_is (a := a) (s := s) (n := n) (c := c) (u := u) hm1 hm2' hl1 hs3 hsm
    have impl := implGiveAll_is (a := a) (s := s) (n := n) (c := c) (u := u) hm1 hl1 hs3 hw hsm
    obtain ⟨m1, a1, s1, n1, c1, u1, l2, ws, b1, e, hm1', hmz, hl1', hws⟩ := givesOf_small (P := IsArena m a s n c u l ∧ ask.length ≤ 6 ∧ ∀ q ∈ ask, OkAsk q) hs1 hs2 hs3 id
    rw [e] at spec impl
    have eq1 := eqArena_is (a := a1) (s := s1) (n := n1) (c := c1) (u := u1) hm1' hmz hl1'
    have eq2 := eqWindowS_is (l := ws) (by rw [maxLen_]; omega)
    have eq3 := eqArena_is (a := a) (s := s) (n := n) (c := c) (u := u) hs1 hs2 hs3
    have eq4 := eqAskedS_is (l := ask) (by rw [maxLen_]; omega)
    obtain ⟨x2, y2, r3, _, _, hr3, hr3', hk2, _⟩ := markArena_is (a := a) (s := s) (n := n) (c := c) (u := u) (b := 1) hs1 hs2 hs3 (by omega) (by omega)
    obtain ⟨y3, hk3⟩ := markAskedS_is (l := ask) (a := r3) (by omega) (by omega) (by omega)
    obtain ⟨x4, y4, r4, _, _, hr4, hr4', hk4, hh4⟩ := markArena_is (a := a1) (s := s1) (n := n1) (c := c1) (u := u1) (b := 1) hm1' hmz hl1' (by omega) (by omega)
    obtain ⟨y5, hy5, hk5, hh5⟩ := markWindowS_is (l := ws) (a := r4) (by omega) (by omega) (by omega)
    obtain ⟨K0, hr⟩ := hr; obtain ⟨K1, hto⟩ := hto; obtain ⟨K2, hto2⟩ := hto2; obtain ⟨K3, spec⟩ := spec; obtain ⟨K4, impl⟩ := impl; obtain ⟨K5, eq1⟩ := eq1; obtain ⟨K6, eq2⟩ := eq2; obtain ⟨K7, eq3⟩ := eq3; obtain ⟨K8, eq4⟩ := eq4
    obtain ⟨K9, hk2⟩ := hk2; obtain ⟨K10, hk3⟩ := hk3; obtain ⟨K11, hk4⟩ := hk4; obtain ⟨K12, hk5⟩ := hk5; obtain ⟨K13, hh4⟩ := hh4; obtain ⟨K14, hh5⟩ := hh5
    exact .inl ⟨K0 + K1 + K2 + K3 + K4 + K5 + K6 + K7 + K8 + K9 + K10 + K11 + K12 + K13 + K14, r, r2, m, a, s, n, c, u, l, ask, m1, a1, s1, n1, c1, u1, l2, ws, b1, r3, x2, y2, _, y3, r4, x4, y4, _, y5, hr _ (by omega), by omega, hr2, by omega, hto _ (by omega), hto2 _ (by omega), spec _ (by omega), impl _ (by omega), eq1 _ (by omega), eq2 _ (by omega), eq3 _ (by omega), eq4 _ (by omega), hk2 _ (by omega), hk3 _ (by omega), by omega, hk4 _ (by omega), hk5 _ (by omega), hh4 _ (by omega), hr4, hh5 _ (by omega), by omega⟩
end Go.Proofs.Ytmkcbbbknbahgaa.P
namespace Go.Proofs.Ytmkcbbbknbahgaa.fnExactGiveAll
open Go.ChangeShapes Go.WideShapes Go.ChangeAt Go.RowKit
open Go.ChangeMaps (open_string shut_string)
open Go.Proofs.Ytmkcbbbknbahgaa.P Go.Proofs.YtmkcbbbknbahgaaW.PrintWords Go.Proofs.YtmkcbbbknbahgaaW.PrintLast Go.Proofs.YtmkcbbbknbahgaaW.PrintMore
set_option linter.unusedVariables false

theorem own : ownKnob Try.prog.godebug = none := by kernel_rfl

theorem laidOut : laidOutB Try.prog = true := by kernel_rfl

set_option maxRecDepth 100000 in
set_option maxHeartbeats 2000000 in
theorem lifted (os : Os) (started : os.Started) (H : Type) (enc : TypeId × Value → H) :
    ReturnsInHanded {} Try.checked os 8 .any (Rows.fnExactGiveAllSpec.pre6 enc Try.prog Try.f8 Rows.fnExactGiveAllRow.domain false) (Rows.fnExactGiveAllSpec.post enc Try.prog Try.f8 false true false false) := by
  refine returnsInHanded_of_change_sized (C := Try.checked) own started (by kernel_rfl) Try.func8
    (ChangeSpec.witness6 (enc := enc) (C := Try.checked) false ⟨#[], #[.agg #[.slice none 0 0, .int .i64 0, .int .i64 0, .int .i64 0, .int .i64 0, .int .i64 0, .slice none 0 0], .slice none 0 0], []⟩ 8 (by kernel_rfl) (by kernel_rfl) (by kernel_rfl) (by kernel_rfl)) ?_
  intro W base args ds gs before hval0 hW hcnd hsz0 _
  have hsz : (DataW.weightsEach Try.prog (Try.f8.params.toList ++ Rows.fnExactGiveAllSpec.plain.varTypes Try.prog) (ds ++ gs)).all (· ≤ reachBytes) = true := hsz0
  have hval : ∀ (j : Nat) t v, Try.f8.params[j]? = some t → args[j]? = some v → Value.okWide Try.prog W .any base t v := hval0
  have hW' := hW
  obtain ⟨p, q, hA0, hV, rfl, hfz, hnd⟩ := hW
  have hA : DataW.TrodAll enc Try.prog W 0 (fun _ => true) true Try.f8.params.toList args.toList ds p := hA0
  rw [Try.params8] at hA hval hsz
  obtain ⟨v0, vs0, d0, ds0, p0, q0, hargs, rfl, rfl, h0, r0⟩ := trodAll_cons hA
  obtain ⟨v1, vs1, d1, ds1, p1, q1, rfl, rfl, rfl, h1, r1⟩ := trodAll_cons r0
  obtain ⟨rfl, rfl, rfl⟩ := trodAll_nil r1
  obtain rfl : args = #[v0, v1] := by cases args; simp_all
  obtain ⟨rfl, rfl⟩ := trodVars_none hV
  obtain ⟨cs0, rfl, _⟩ := okWide_struct Try.underlying65 (hval 0 65 v0 rfl rfl)
  have k0 := h0
  have lt0 : ∀ x ∈ p0, x.block < W.heap.size := by obtain ⟨m, hm⟩ := k0; exact DataW.trod_lt m _ _ _ hm
  obtain ⟨A0_0, c0_0, l0_0, a0_1, a0_2, a0_3, a0_4, a0_5, A0_6, c0_6, l0_6, e0, HR0_0, HC0_0, W0_0, W0_1, W0_2, W0_3, W0_4, W0_5, HR0_6, HC0_6, W0_6, _⟩ : ∃ (A0_0 : Option Addr) (c0_0 : Nat) (l0_0 : List (List Int)) (a0_1 : Int) (a0_2 : Int) (a0_3 : Int) (a0_4 : Int) (a0_5 : Int) (A0_6 : Option Addr) (c0_6 : Nat) (l0_6 : List Int), cs0 = #[.slice A0_0 l0_0.length c0_0, .int .i64 a0_1, .int .i64 a0_2, .int .i64 a0_3, .int .i64 a0_4, .int .i64 a0_5, .slice A0_6 l0_6.length c0_6] ∧ Kd.C (Kd.slice 5 (Kd.int .u8)) W A0_0 l0_0.length l0_0 ∧ l0_0.length ≤ c0_0 ∧ (l0_0.length ≤ maxLen ∧ ∀ z ∈ l0_0, (z.length ≤ maxLen ∧ ∀ z2 ∈ z, (Lit.int .u8 z2).wf = true)) ∧ (Lit.int .i64 a0_1).wf = true ∧ (Lit.int .i64 a0_2).wf = true ∧ (Lit.int .i64 a0_3).wf = true ∧ (Lit.int .i64 a0_4).wf = true ∧ (Lit.int .i64 a0_5).wf = true ∧ Kd.C (Kd.int .i64) W A0_6 l0_6.length l0_6 ∧ l0_6.length ≤ c0_6 ∧ (l0_6.length ≤ maxLen ∧ ∀ z ∈ l0_6, (Lit.int .i64 z).wf = true) ∧ True := by
    obtain ⟨fuel, hf⟩ := h0
    obtain ⟨A0_0, c0_0, l0_0, a0_1, a0_2, a0_3, a0_4, a0_5, A0_6, c0_6, l0_6, e_, r_⟩ := P.cells_65 hf
    refine ⟨A0_0, c0_0, l0_0, a0_1, a0_2, a0_3, a0_4, a0_5, A0_6, c0_6, l0_6, ?_, r_⟩
    exact Array.toList_inj.1 e_
  subst e0
  obtain ⟨A1, len1, c1, rfl⟩ := okWide_slice Try.underlying80 (hval 1 80 v1 rfl rfl)
  have k1 := h1
  have lt1 : ∀ x ∈ p1, x.block < W.heap.size := by obtain ⟨m, hm⟩ := k1; exact DataW.trod_lt m _ _ _ hm
  obtain ⟨l1, e1, HC1, HR1, W1⟩ : ∃ l : List S67, len1 = l.length ∧ l.length ≤ c1 ∧ Kd.C k67 W A1 l.length l ∧ (l.length ≤ maxLen ∧ ∀ z ∈ l, wf67 z) := by
    obtain ⟨fuel, hf⟩ := h1
    obtain ⟨l, ⟨A_, c_, e_, hc_, hr_⟩, w_⟩ := (P.opens_slice (P := Try.prog) Try.underlying80 P.opens_67 (by kernel_rfl)) hf rfl
    obtain ⟨rfl, rfl, rfl⟩ := Value.slice.inj (List.cons.inj e_).1
    exact ⟨l, rfl, hc_, hr_, w_⟩
  subst e1
  clear hA0 hval0 hsz0 hsz
  refine (P.FnExactGiveAll.call P.FnExactGiveAll.pure A0_0 c0_0 l0_0 a0_1 a0_2 a0_3 a0_4 a0_5 A0_6 c0_6 l0_6 A1 c1 l1 W HR0_0 HC0_0 HR0_6 HC0_6 HR1 HC1 W0_0 W0_1 W0_2 W0_3 W0_4 W0_5 W0_6 W1).mono fun e W' ⟨he, bel⟩ => ?_
  subst he
  exact ⟨_, rfl, _, _, _, [], _, [], hW', trodAll_mk1 (shut_bool Try.underlying4 _), (trodAll_cons_mk (Below.trod laidOut (by kernel_rfl) (of_decide_eq_true (by kernel_rfl)) k0 bel lt0) (trodAll_cons_mk (Below.trod laidOut (by kernel_rfl) (of_decide_eq_true (by kernel_rfl)) k1 bel lt1) trodAll_mk0)), rfl, bel.frame _, fun h => by cases h⟩

theorem cl1 : Try.pinned.checked.prog.funcNamed Rows.fnExactGiveAllRow.func = some 8 := by kernel_rfl

theorem cl2 : joinedFacts Try.pinned.checked.prog 8 Try.f8 Rows.fnExactGiveAllSpec Rows.fnExactGiveAllRow = true := by kernel_rfl

theorem cl3 : Try.f8.isInstance Try.pinned.checked.prog Rows.fnExactGiveAllRow.origin Rows.fnExactGiveAllRow.targs := of_decide_eq_true (by kernel_rfl)

theorem cl4 : Try.f8.isWrapper Try.pinned.checked.prog Rows.fnExactGiveAllRow.wrapper Rows.fnExactGiveAllRow.mainSum := (by unfold Func.isWrapper; first | (rw [if_pos (by decide +kernel)]; kernel_rfl) | (rw [if_neg (by decide +kernel)]; exact ⟨rfl, rfl⟩))

theorem over : Rows.fnExactGiveAllRow.holds Try.pinned (OpenSpec.ofChange Rows.fnExactGiveAllSpec) :=
  OpenClaim.holds_of_wide 8 Try.f8 rfl rfl rfl rfl rfl rfl rfl ⟨rfl, rfl, rfl, rfl, rfl⟩ rfl rfl rfl rfl rfl cl1 Try.func8 cl2 cl3 cl4
    (fun os started H enc _ => lifted os started H enc)

theorem proved : Rows.FnExactGiveAllSaid := over
#print axioms proved
end Go.Proofs.Ytmkcbbbknbahgaa.fnExactGiveAll
namespace Go.Proofs.Ytmkcbbbknbahgaa

/-- The row, under a short name, for the claim. -/
theorem fnExactGiveAll_holds : Rows.FnExactGiveAllSaid := fnExactGiveAll.proved
end Go.Proofs.Ytmkcbbbknbahgaa
