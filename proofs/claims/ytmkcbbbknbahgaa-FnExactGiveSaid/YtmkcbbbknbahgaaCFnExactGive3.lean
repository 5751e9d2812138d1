/- Part 3 of the proof of FnExactGive: contracts of functions that the law reaches. Conditions: none. -/
import Derived.Test.YtmkcbbbknbahgaaCFnExactGive2
namespace Go.Proofs.Ytmkcbbbknbahgaa.P
open Go.RowKit Go.Proofs.YtmkcbbbknbahgaaW.PrintWords Go.Proofs.YtmkcbbbknbahgaaW.PrintLast Go.Proofs.YtmkcbbbknbahgaaW.PrintMore
attribute [local go_sem] max2_int min2_int max_two min_two max_three min_three max_four min_four   -- for this text's walks alone
set_option linter.unusedVariables false
set_option linter.unusedSimpArgs false

def laws_eqArena.f (k : Nat) (l0_0 : List (List Int)) (a0_1 : Int) (a0_2 : Int) (a0_3 : Int) (a0_4 : Int) (a0_5 : Int) (l0_6 : List Int) (l1_0 : List (List Int)) (a1_1 : Int) (a1_2 : Int) (a1_3 : Int) (a1_4 : Int) (a1_5 : Int) (l1_6 : List Int) : Option (Bool) := (laws_eqMemory.f k l0_0 l1_0).bind fun t829 => (if t829 = true then ((laws_eqWindow.f a0_1 a0_2 a0_3 a0_4 a1_1 a1_2 a1_3 a1_4).bind fun t830 => (if t830 = true then (if a0_5 = a1_5 then ((laws_eqIntS.f k l0_6 l1_6).bind fun t831 => (if t831 = true then (some true) else (some false))) else (some false)) else (some false))) else (some false))

set_option maxHeartbeats 8000000 in
set_option maxRecDepth 100000 in
theorem laws_eqArena.calls (k : Nat) (A0_0 : Option Addr) (c0_0 : Nat) (l0_0 : List (List Int)) (a0_1 : Int) (a0_2 : Int) (a0_3 : Int) (a0_4 : Int) (a0_5 : Int) (A0_6 : Option Addr) (c0_6 : Nat) (l0_6 : List Int) (A1_0 : Option Addr) (c1_0 : Nat) (l1_0 : List (List Int)) (a1_1 : Int) (a1_2 : Int) (a1_3 : Int) (a1_4 : Int) (a1_5 : Int) (A1_6 : Option Addr) (c1_6 : Nat) (l1_6 : List Int) (r : Bool) (w : World) (hr0_0 : Kd.C (Kd.slice 5 (Kd.int .u8)) w A0_0 l0_0.length l0_0) (hc0_0 : l0_0.length ≤ c0_0) (hr0_6 : Kd.C (Kd.int .i64) w A0_6 l0_6.length l0_6) (hc0_6 : l0_6.length ≤ c0_6) (hr1_0 : Kd.C (Kd.slice 5 (Kd.int .u8)) w A1_0 l1_0.length l1_0) (hc1_0 : l1_0.length ≤ c1_0) (hr1_6 : Kd.C (Kd.int .i64) w A1_6 l1_6.length l1_6) (hc1_6 : l1_6.length ≤ c1_6) (h : laws_eqArena.f k l0_0 a0_1 a0_2 a0_3 a0_4 a0_5 l0_6 l1_0 a1_1 a1_2 a1_3 a1_4 a1_5 l1_6 = some r) :
  Calls Try.prog 40 #[.agg #[.slice A0_0 l0_0.length c0_0, .int .i64 a0_1, .int .i64 a0_2, .int .i64 a0_3, .int .i64 a0_4, .int .i64 a0_5, .slice A0_6 l0_6.length c0_6], .agg #[.slice A1_0 l1_0.length c1_0, .int .i64 a1_1, .int .i64 a1_2, .int .i64 a1_3, .int .i64 a1_4, .int .i64 a1_5, .slice A1_6 l1_6.length c1_6]] w fun e w' => e = .returned (.bool r) ∧ Below w.heap.size w w' := by
 have hu70 := Try.underlying70
 have hu31 := Try.underlying31
 have hu32 := Try.underlying32
 have HR0_0 := Aside0.mk hr0_0
 have HC0_0 := Aside0.mk hc0_0
 clear hr0_0 hc0_0
 have HR0_6 := Aside0.mk hr0_6
 have HC0_6 := Aside0.mk hc0_6
 clear hr0_6 hc0_6
 have HR1_0 := Aside0.mk hr1_0
 have HC1_0 := Aside0.mk hc1_0
 clear hr1_0 hc1_0
 have HR1_6 := Aside0.mk hr1_6
 have HC1_6 := Aside0.mk hc1_6
 clear hr1_6 hc1_6
 have HB := Aside0.mk (Below.refl w.heap.size w)
 have H : ((laws_eqMemory.f k l0_0 l1_0).bind fun t829 => (if t829 = true then ((laws_eqWindow.f a0_1 a0_2 a0_3 a0_4 a1_1 a1_2 a1_3 a1_4).bind fun t830 => (if t830 = true then (if a0_5 = a1_5 then ((laws_eqIntS.f k l0_6 l1_6).bind fun t831 => (if t831 = true then (some true) else (some false))) else (some false)) else (some false))) else (some false))) = some r := h
 clear h
 replace H := Option.bind_eq_some_iff.mp H
 obtain ⟨t829, A30, H⟩ := H
 replace H : (if t829 = true then ((laws_eqWindow.f a0_1 a0_2 a0_3 a0_4 a1_1 a1_2 a1_3 a1_4).bind fun t830 => (if t830 = true then (if a0_5 = a1_5 then ((laws_eqIntS.f k l0_6 l1_6).bind fun t831 => (if t831 = true then (some true) else (some false))) else (some false)) else (some false))) else (some false)) = some r := H
 have A3 := Aside0.mk A30
 clear A30
 by_cases c4 : t829 = true
 ·subst c4
  rw [if_pos rfl] at H
  replace H := Option.bind_eq_some_iff.mp H
  obtain ⟨t830, A50, H⟩ := H
  replace H : (if t830 = true then (if a0_5 = a1_5 then ((laws_eqIntS.f k l0_6 l1_6).bind fun t831 => (if t831 = true then (some true) else (some false))) else (some false)) else (some false)) = some r := H
  have A5 := Aside0.mk A50
  clear A50
  by_cases c6 : t830 = true
  ·subst c6
   rw [if_pos rfl] at H
   by_cases c7 : a0_5 = a1_5
   ·rw [if_pos c7] at H
    have c7b0 : (a0_5 == a1_5) = true := beq_iff_eq.mpr c7
    have c7b1 : (a0_5 != a1_5) = false := bne_eq_false_iff_eq.mpr c7
    clear c7
    replace H := Option.bind_eq_some_iff.mp H
    obtain ⟨t831, A80, H⟩ := H
    replace H : (if t831 = true then (some true) else (some false)) = some r := H
    have A8 := Aside0.mk A80
    clear A80
    by_cases c9 : t831 = true
    ·subst c9
     rw [if_pos rfl] at H
     obtain rfl := Option.some.inj H
     go_enter Try.func40, Try.ntmps40
     go_wp2_with (first | ((with_reducible refine gate_dst (N := 2) rfl ?_); refine box_event ?hg (N := 2) ?hd (cs := #[.slice A0_0 l0_0.length c0_0, .int .i64 a0_1, .int .i64 a0_2, .int .i64 a0_3, .int .i64 a0_4, .int .i64 a0_5, .slice A0_6 l0_6.length c0_6]) (t := 70) ?hr ?_; (case hd => rfl); (case hg => rfl); (case hr => exact gs_); intro gb827 hg w10 hbox hb; have BK827 := Aside0.mk (hbox); have GW827 := gE_ HB hg; have GE827 := gE_ HB hg; replace HB := Aside0.mk (below_step (by repeat (first | (with_reducible first | exact HB.out | apply ba_ | apply bn_ | apply bd_) | exact HB.out)) hb); clear hb hbox hg) | ((with_reducible refine gate_dst (N := 3) rfl ?_); refine box_event ?hg (N := 3) ?hd (cs := #[.slice A1_0 l1_0.length c1_0, .int .i64 a1_1, .int .i64 a1_2, .int .i64 a1_3, .int .i64 a1_4, .int .i64 a1_5, .slice A1_6 l1_6.length c1_6]) (t := 70) ?hr ?_; (case hd => rfl); (case hg => rfl); (case hr => exact gs_); intro gb828 hg w11 hbox hb; have BK828 := Aside0.mk (hbox); have GW828 := gE_ HB hg; have GE828 := gE_ HB hg; replace HB := Aside0.mk (below_step (by repeat (first | (with_reducible first | exact HB.out | apply ba_ | apply bn_ | apply bd_ | refine bset_ ?_ (by assumption)) | exact HB.out)) hb); have NB827_828 := nB_ BK827 hg; have NB828_827 := nA_ BK827 hg; replace BK827 := bB_ BK827 hb; clear hb hbox hg; have hnb12 := NB827_828.out; have hnc12 := NB828_827.out; have hcz13_0 : w11.cell? ⟨gb827, 0, none⟩ = some (.slice A0_0 l0_0.length c0_0) := (blk_cell BK827.out 0).trans rfl; have hcz13_1 : w11.cell? ⟨gb827, 1, none⟩ = some (.int .i64 a0_1) := (blk_cell BK827.out 1).trans rfl; have hcz13_2 : w11.cell? ⟨gb827, 2, none⟩ = some (.int .i64 a0_2) := (blk_cell BK827.out 2).trans rfl; have hcz13_3 : w11.cell? ⟨gb827, 3, none⟩ = some (.int .i64 a0_3) := (blk_cell BK827.out 3).trans rfl; have hcz13_4 : w11.cell? ⟨gb827, 4, none⟩ = some (.int .i64 a0_4) := (blk_cell BK827.out 4).trans rfl; have hcz13_5 : w11.cell? ⟨gb827, 5, none⟩ = some (.int .i64 a0_5) := (blk_cell BK827.out 5).trans rfl; have hcz13_6 : w11.cell? ⟨gb827, 6, none⟩ = some (.slice A0_6 l0_6.length c0_6) := (blk_cell BK827.out 6).trans rfl; have hfz13_0 := blk_frozen BK827.out 0; have hfz13_1 := blk_frozen BK827.out 1; have hfz13_2 := blk_frozen BK827.out 2; have hfz13_3 := blk_frozen BK827.out 3; have hfz13_4 := blk_frozen BK827.out 4; have hfz13_5 := blk_frozen BK827.out 5; have hfz13_6 := blk_frozen BK827.out 6; have hcz14_0 : w11.cell? ⟨gb828, 0, none⟩ = some (.slice A1_0 l1_0.length c1_0) := (blk_cell BK828.out 0).trans rfl; have hcz14_1 : w11.cell? ⟨gb828, 1, none⟩ = some (.int .i64 a1_1) := (blk_cell BK828.out 1).trans rfl; have hcz14_2 : w11.cell? ⟨gb828, 2, none⟩ = some (.int .i64 a1_2) := (blk_cell BK828.out 2).trans rfl; have hcz14_3 : w11.cell? ⟨gb828, 3, none⟩ = some (.int .i64 a1_3) := (blk_cell BK828.out 3).trans rfl; have hcz14_4 : w11.cell? ⟨gb828, 4, none⟩ = some (.int .i64 a1_4) := (blk_cell BK828.out 4).trans rfl; have hcz14_5 : w11.cell? ⟨gb828, 5, none⟩ = some (.int .i64 a1_5) := (blk_cell BK828.out 5).trans rfl; have hcz14_6 : w11.cell? ⟨gb828, 6, none⟩ = some (.slice A1_6 l1_6.length c1_6) := (blk_cell BK828.out 6).trans rfl; have hfz14_0 := blk_frozen BK828.out 0; have hfz14_1 := blk_frozen BK828.out 1; have hfz14_2 := blk_frozen BK828.out 2; have hfz14_3 := blk_frozen BK828.out 3; have hfz14_4 := blk_frozen BK828.out 4; have hfz14_5 := blk_frozen BK828.out 5; have hfz14_6 := blk_frozen BK828.out 6) | ((with_reducible refine gate_callee (f := 61) rfl ?_); refine goesL_ (some 9) rfl rfl Try.func61 (by kernel_rfl) rfl #[.agg #[.slice A0_0 l0_0.length c0_0], .agg #[.slice A1_0 l1_0.length c1_0]] rfl ar_ ?_; (with_reducible refine (laws_eqMemory.calls k _ _ l0_0 _ _ l1_0 true _ ?side1 ?side2 ?side3 ?side4 A3.out).mono ?_); (case side1 => repeat (first | exact (Kd.C_below HR0_0.out HB.out) | (with_reducible refine Kd.C_alloc ?_ _) | (with_reducible refine Kd.C_drewN ?_ _) | (with_reducible refine Kd.C_drew ?_))); (case side2 => exact HC0_0.out); (case side3 => repeat (first | exact (Kd.C_below HR1_0.out HB.out) | (with_reducible refine Kd.C_alloc ?_ _) | (with_reducible refine Kd.C_drewN ?_ _) | (with_reducible refine Kd.C_drew ?_))); (case side4 => exact HC1_0.out); rintro e w15 ⟨rfl, hb⟩; refine ⟨_, rfl, ?_⟩; replace BK827 := bB_ BK827 hb; replace BK828 := bB_ BK828 hb; replace HB := Aside0.mk (below_step (by repeat (first | (with_reducible first | exact HB.out | apply ba_ | apply bn_ | apply bd_ | refine bset_ ?_ (by assumption)) | exact HB.out)) hb); (try clear hb); (try clear hb2); (try clear hk); (try clear hi); have hcz16_0 : w15.cell? ⟨gb827, 0, none⟩ = some (.slice A0_0 l0_0.length c0_0) := (blk_cell BK827.out 0).trans rfl; have hcz16_1 : w15.cell? ⟨gb827, 1, none⟩ = some (.int .i64 a0_1) := (blk_cell BK827.out 1).trans rfl; have hcz16_2 : w15.cell? ⟨gb827, 2, none⟩ = some (.int .i64 a0_2) := (blk_cell BK827.out 2).trans rfl; have hcz16_3 : w15.cell? ⟨gb827, 3, none⟩ = some (.int .i64 a0_3) := (blk_cell BK827.out 3).trans rfl; have hcz16_4 : w15.cell? ⟨gb827, 4, none⟩ = some (.int .i64 a0_4) := (blk_cell BK827.out 4).trans rfl; have hcz16_5 : w15.cell? ⟨gb827, 5, none⟩ = some (.int .i64 a0_5) := (blk_cell BK827.out 5).trans rfl; have hcz16_6 : w15.cell? ⟨gb827, 6, none⟩ = some (.slice A0_6 l0_6.length c0_6) := (blk_cell BK827.out 6).trans rfl; have hfz16_0 := blk_frozen BK827.out 0; have hfz16_1 := blk_frozen BK827.out 1; have hfz16_2 := blk_frozen BK827.out 2; have hfz16_3 := blk_frozen BK827.out 3; have hfz16_4 := blk_frozen BK827.out 4; have hfz16_5 := blk_frozen BK827.out 5; have hfz16_6 := blk_frozen BK827.out 6; have hcz17_0 : w15.cell? ⟨gb828, 0, none⟩ = some (.slice A1_0 l1_0.length c1_0) := (blk_cell BK828.out 0).trans rfl; have hcz17_1 : w15.cell? ⟨gb828, 1, none⟩ = some (.int .i64 a1_1) := (blk_cell BK828.out 1).trans rfl; have hcz17_2 : w15.cell? ⟨gb828, 2, none⟩ = some (.int .i64 a1_2) := (blk_cell BK828.out 2).trans rfl; have hcz17_3 : w15.cell? ⟨gb828, 3, none⟩ = some (.int .i64 a1_3) := (blk_cell BK828.out 3).trans rfl; have hcz17_4 : w15.cell? ⟨gb828, 4, none⟩ = some (.int .i64 a1_4) := (blk_cell BK828.out 4).trans rfl; have hcz17_5 : w15.cell? ⟨gb828, 5, none⟩ = some (.int .i64 a1_5) := (blk_cell BK828.out 5).trans rfl; have hcz17_6 : w15.cell? ⟨gb828, 6, none⟩ = some (.slice A1_6 l1_6.length c1_6) := (blk_cell BK828.out 6).trans rfl; have hfz17_0 := blk_frozen BK828.out 0; have hfz17_1 := blk_frozen BK828.out 1; have hfz17_2 := blk_frozen BK828.out 2; have hfz17_3 := blk_frozen BK828.out 3; have hfz17_4 := blk_frozen BK828.out 4; have hfz17_5 := blk_frozen BK828.out 5; have hfz17_6 := blk_frozen BK828.out 6) | ((with_reducible refine gate_callee (f := 41) rfl ?_); refine goesL_ (some 15) rfl rfl Try.func41 (by kernel_rfl) rfl #[.agg #[.int .i64 a0_1, .int .i64 a0_2, .int .i64 a0_3, .int .i64 a0_4], .agg #[.int .i64 a1_1, .int .i64 a1_2, .int .i64 a1_3, .int .i64 a1_4]] rfl ar_ ?_; (with_reducible refine (laws_eqWindow.calls a0_1 a0_2 a0_3 a0_4 a1_1 a1_2 a1_3 a1_4 true _ A5.out).mono ?_); rintro e w18 ⟨rfl, hb⟩; refine ⟨_, rfl, ?_⟩; replace BK827 := bB_ BK827 hb; replace BK828 := bB_ BK828 hb; replace HB := Aside0.mk (below_step (by repeat (first | (with_reducible first | exact HB.out | apply ba_ | apply bn_ | apply bd_ | refine bset_ ?_ (by assumption)) | exact HB.out)) hb); (try clear hb); (try clear hb2); (try clear hk); (try clear hi); have hcz19_0 : w18.cell? ⟨gb827, 0, none⟩ = some (.slice A0_0 l0_0.length c0_0) := (blk_cell BK827.out 0).trans rfl; have hcz19_1 : w18.cell? ⟨gb827, 1, none⟩ = some (.int .i64 a0_1) := (blk_cell BK827.out 1).trans rfl; have hcz19_2 : w18.cell? ⟨gb827, 2, none⟩ = some (.int .i64 a0_2) := (blk_cell BK827.out 2).trans rfl; have hcz19_3 : w18.cell? ⟨gb827, 3, none⟩ = some (.int .i64 a0_3) := (blk_cell BK827.out 3).trans rfl; have hcz19_4 : w18.cell? ⟨gb827, 4, none⟩ = some (.int .i64 a0_4) := (blk_cell BK827.out 4).trans rfl; have hcz19_5 : w18.cell? ⟨gb827, 5, none⟩ = some (.int .i64 a0_5) := (blk_cell BK827.out 5).trans rfl; have hcz19_6 : w18.cell? ⟨gb827, 6, none⟩ = some (.slice A0_6 l0_6.length c0_6) := (blk_cell BK827.out 6).trans rfl; have hfz19_0 := blk_frozen BK827.out 0; have hfz19_1 := blk_frozen BK827.out 1; have hfz19_2 := blk_frozen BK827.out 2; have hfz19_3 := blk_frozen BK827.out 3; have hfz19_4 := blk_frozen BK827.out 4; have hfz19_5 := blk_frozen BK827.out 5; have hfz19_6 := blk_frozen BK827.out 6; have hcz20_0 : w18.cell? ⟨gb828, 0, none⟩ = some (.slice A1_0 l1_0.length c1_0) := (blk_cell BK828.out 0).trans rfl; have hcz20_1 : w18.cell? ⟨gb828, 1, none⟩ = some (.int .i64 a1_1) := (blk_cell BK828.out 1).trans rfl; have hcz20_2 : w18.cell? ⟨gb828, 2, none⟩ = some (.int .i64 a1_2) := (blk_cell BK828.out 2).trans rfl; have hcz20_3 : w18.cell? ⟨gb828, 3, none⟩ = some (.int .i64 a1_3) := (blk_cell BK828.out 3).trans rfl; have hcz20_4 : w18.cell? ⟨gb828, 4, none⟩ = some (.int .i64 a1_4) := (blk_cell BK828.out 4).trans rfl; have hcz20_5 : w18.cell? ⟨gb828, 5, none⟩ = some (.int .i64 a1_5) := (blk_cell BK828.out 5).trans rfl; have hcz20_6 : w18.cell? ⟨gb828, 6, none⟩ = some (.slice A1_6 l1_6.length c1_6) := (blk_cell BK828.out 6).trans rfl; have hfz20_0 := blk_frozen BK828.out 0; have hfz20_1 := blk_frozen BK828.out 1; have hfz20_2 := blk_frozen BK828.out 2; have hfz20_3 := blk_frozen BK828.out 3; have hfz20_4 := blk_frozen BK828.out 4; have hfz20_5 := blk_frozen BK828.out 5; have hfz20_6 := blk_frozen BK828.out 6) | ((with_reducible refine gate_callee (f := 103) rfl ?_); refine goesL_ (some 26) rfl rfl Try.func103 (by kernel_rfl) rfl #[.slice A0_6 l0_6.length c0_6, .slice A1_6 l1_6.length c1_6] rfl ar_ ?_; (with_reducible refine (laws_eqIntS.calls k _ _ l0_6 _ _ l1_6 true _ ?side1 ?side2 ?side3 ?side4 A8.out).mono ?_); (case side1 => repeat (first | exact (Kd.C_below HR0_6.out HB.out) | (with_reducible refine Kd.C_alloc ?_ _) | (with_reducible refine Kd.C_drewN ?_ _) | (with_reducible refine Kd.C_drew ?_))); (case side2 => exact HC0_6.out); (case side3 => repeat (first | exact (Kd.C_below HR1_6.out HB.out) | (with_reducible refine Kd.C_alloc ?_ _) | (with_reducible refine Kd.C_drewN ?_ _) | (with_reducible refine Kd.C_drew ?_))); (case side4 => exact HC1_6.out); rintro e w' ⟨rfl, ⟨nd, rfl⟩⟩; refine ⟨_, rfl, ?_⟩))
     go_ret
     exact ⟨er_, by repeat (first | (with_reducible first | exact HB.out | apply below_alloc | apply pw_below_drewN | apply below_drew1 | refine below_set ?_ GE827.out | refine below_set ?_ GE828.out) | exact HB.out)⟩
    ·replace c9 := Bool.eq_false_iff.mpr c9
     subst c9
     rw [if_neg (show ¬ (false = true) by decide)] at H
     obtain rfl := Option.some.inj H
     go_enter Try.func40, Try.ntmps40
     go_wp2_with (first | ((with_reducible refine gate_dst (N := 2) rfl ?_); refine box_event ?hg (N := 2) ?hd (cs := #[.slice A0_0 l0_0.length c0_0, .int .i64 a0_1, .int .i64 a0_2, .int .i64 a0_3, .int .i64 a0_4, .int .i64 a0_5, .slice A0_6 l0_6.length c0_6]) (t := 70) ?hr ?_; (case hd => rfl); (case hg => rfl); (case hr => exact gs_); intro gb827 hg w21 hbox hb; have BK827 := Aside0.mk (hbox); have GW827 := gE_ HB hg; have GE827 := gE_ HB hg; replace HB := Aside0.mk (below_step (by repeat (first | (with_reducible first | exact HB.out | apply ba_ | apply bn_ | apply bd_) | exact HB.out)) hb); clear hb hbox hg) | ((with_reducible refine gate_dst (N := 3) rfl ?_); refine box_event ?hg (N := 3) ?hd (cs := #[.slice A1_0 l1_0.length c1_0, .int .i64 a1_1, .int .i64 a1_2, .int .i64 a1_3, .int .i64 a1_4, .int .i64 a1_5, .slice A1_6 l1_6.length c1_6]) (t := 70) ?hr ?_; (case hd => rfl); (case hg => rfl); (case hr => exact gs_); intro gb828 hg w22 hbox hb; have BK828 := Aside0.mk (hbox); have GW828 := gE_ HB hg; have GE828 := gE_ HB hg; replace HB := Aside0.mk (below_step (by repeat (first | (with_reducible first | exact HB.out | apply ba_ | apply bn_ | apply bd_ | refine bset_ ?_ (by assumption)) | exact HB.out)) hb); have NB827_828 := nB_ BK827 hg; have NB828_827 := nA_ BK827 hg; replace BK827 := bB_ BK827 hb; clear hb hbox hg; have hnb23 := NB827_828.out; have hnc23 := NB828_827.out; have hcz24_0 : w22.cell? ⟨gb827, 0, none⟩ = some (.slice A0_0 l0_0.length c0_0) := (blk_cell BK827.out 0).trans rfl; have hcz24_1 : w22.cell? ⟨gb827, 1, none⟩ = some (.int .i64 a0_1) := (blk_cell BK827.out 1).trans rfl; have hcz24_2 : w22.cell? ⟨gb827, 2, none⟩ = some (.int .i64 a0_2) := (blk_cell BK827.out 2).trans rfl; have hcz24_3 : w22.cell? ⟨gb827, 3, none⟩ = some (.int .i64 a0_3) := (blk_cell BK827.out 3).trans rfl; have hcz24_4 : w22.cell? ⟨gb827, 4, none⟩ = some (.int .i64 a0_4) := (blk_cell BK827.out 4).trans rfl; have hcz24_5 : w22.cell? ⟨gb827, 5, none⟩ = some (.int .i64 a0_5) := (blk_cell BK827.out 5).trans rfl; have hcz24_6 : w22.cell? ⟨gb827, 6, none⟩ = some (.slice A0_6 l0_6.length c0_6) := (blk_cell BK827.out 6).trans rfl; have hfz24_0 := blk_frozen BK827.out 0; have hfz24_1 := blk_frozen BK827.out 1; have hfz24_2 := blk_frozen BK827.out 2; have hfz24_3 := blk_frozen BK827.out 3; have hfz24_4 := blk_frozen BK827.out 4; have hfz24_5 := blk_frozen BK827.out 5; have hfz24_6 := blk_frozen BK827.out 6; have hcz25_0 : w22.cell? ⟨gb828, 0, none⟩ = some (.slice A1_0 l1_0.length c1_0) := (blk_cell BK828.out 0).trans rfl; have hcz25_1 : w22.cell? ⟨gb828, 1, none⟩ = some (.int .i64 a1_1) := (blk_cell BK828.out 1).trans rfl; have hcz25_2 : w22.cell? ⟨gb828, 2, none⟩ = some (.int .i64 a1_2) := (blk_cell BK828.out 2).trans rfl; have hcz25_3 : w22.cell? ⟨gb828, 3, none⟩ = some (.int .i64 a1_3) := (blk_cell BK828.out 3).trans rfl; have hcz25_4 : w22.cell? ⟨gb828, 4, none⟩ = some (.int .i64 a1_4) := (blk_cell BK828.out 4).trans rfl; have hcz25_5 : w22.cell? ⟨gb828, 5, none⟩ = some (.int .i64 a1_5) := (blk_cell BK828.out 5).trans rfl; have hcz25_6 : w22.cell? ⟨gb828, 6, none⟩ = some (.slice A1_6 l1_6.length c1_6) := (blk_cell BK828.out 6).trans rfl; have hfz25_0 := blk_frozen BK828.out 0; have hfz25_1 := blk_frozen BK828.out 1; have hfz25_2 := blk_frozen BK828.out 2; have hfz25_3 := blk_frozen BK828.out 3; have hfz25_4 := blk_frozen BK828.out 4; have hfz25_5 := blk_frozen BK828.out 5; have hfz25_6 := blk_frozen BK828.out 6) | ((with_reducible refine gate_callee (f := 61) rfl ?_); refine goesL_ (some 9) rfl rfl Try.func61 (by kernel_rfl) rfl #[.agg #[.slice A0_0 l0_0.length c0_0], .agg #[.slice A1_0 l1_0.length c1_0]] rfl ar_ ?_; (with_reducible refine (laws_eqMemory.calls k _ _ l0_0 _ _ l1_0 true _ ?side1 ?side2 ?side3 ?side4 A3.out).mono ?_); (case side1 => repeat (first | exact (Kd.C_below HR0_0.out HB.out) | (with_reducible refine Kd.C_alloc ?_ _) | (with_reducible refine Kd.C_drewN ?_ _) | (with_reducible refine Kd.C_drew ?_))); (case side2 => exact HC0_0.out); (case side3 => repeat (first | exact (Kd.C_below HR1_0.out HB.out) | (with_reducible refine Kd.C_alloc ?_ _) | (with_reducible refine Kd.C_drewN ?_ _) | (with_reducible refine Kd.C_drew ?_))); (case side4 => exact HC1_0.out); rintro e w26 ⟨rfl, hb⟩; refine ⟨_, rfl, ?_⟩; replace BK827 := bB_ BK827 hb; replace BK828 := bB_ BK828 hb; replace HB := Aside0.mk (below_step (by repeat (first | (with_reducible first | exact HB.out | apply ba_ | apply bn_ | apply bd_ | refine bset_ ?_ (by assumption)) | exact HB.out)) hb); (try clear hb); (try clear hb2); (try clear hk); (try clear hi); have hcz27_0 : w26.cell? ⟨gb827, 0, none⟩ = some (.slice A0_0 l0_0.length c0_0) := (blk_cell BK827.out 0).trans rfl; have hcz27_1 : w26.cell? ⟨gb827, 1, none⟩ = some (.int .i64 a0_1) := (blk_cell BK827.out 1).trans rfl; have hcz27_2 : w26.cell? ⟨gb827, 2, none⟩ = some (.int .i64 a0_2) := (blk_cell BK827.out 2).trans rfl; have hcz27_3 : w26.cell? ⟨gb827, 3, none⟩ = some (.int .i64 a0_3) := (blk_cell BK827.out 3).trans rfl; have hcz27_4 : w26.cell? ⟨gb827, 4, none⟩ = some (.int .i64 a0_4) := (blk_cell BK827.out 4).trans rfl; have hcz27_5 : w26.cell? ⟨gb827, 5, none⟩ = some (.int .i64 a0_5) := (blk_cell BK827.out 5).trans rfl; have hcz27_6 : w26.cell? ⟨gb827, 6, none⟩ = some (.slice A0_6 l0_6.length c0_6) := (blk_cell BK827.out 6).trans rfl; have hfz27_0 := blk_frozen BK827.out 0; have hfz27_1 := blk_frozen BK827.out 1; have hfz27_2 := blk_frozen BK827.out 2; have hfz27_3 := blk_frozen BK827.out 3; have hfz27_4 := blk_frozen BK827.out 4; have hfz27_5 := blk_frozen BK827.out 5; have hfz27_6 := blk_frozen BK827.out 6; have hcz28_0 : w26.cell? ⟨gb828, 0, none⟩ = some (.slice A1_0 l1_0.length c1_0) := (blk_cell BK828.out 0).trans rfl; have hcz28_1 : w26.cell? ⟨gb828, 1, none⟩ = some (.int .i64 a1_1) := (blk_cell BK828.out 1).trans rfl; have hcz28_2 : w26.cell? ⟨gb828, 2, none⟩ = some (.int .i64 a1_2) := (blk_cell BK828.out 2).trans rfl; have hcz28_3 : w26.cell? ⟨gb828, 3, none⟩ = some (.int .i64 a1_3) := (blk_cell BK828.out 3).trans rfl; have hcz28_4 : w26.cell? ⟨gb828, 4, none⟩ = some (.int .i64 a1_4) := (blk_cell BK828.out 4).trans rfl; have hcz28_5 : w26.cell? ⟨gb828, 5, none⟩ = some (.int .i64 a1_5) := (blk_cell BK828.out 5).trans rfl; have hcz28_6 : w26.cell? ⟨gb828, 6, none⟩ = some (.slice A1_6 l1_6.length c1_6) := (blk_cell BK828.out 6).trans rfl; have hfz28_0 := blk_frozen BK828.out 0; have hfz28_1 := blk_frozen BK828.out 1; have hfz28_2 := blk_frozen BK828.out 2; have hfz28_3 := blk_frozen BK828.out 3; have hfz28_4 := blk_frozen BK828.out 4; have hfz28_5 := blk_frozen BK828.out 5; have hfz28_6 := blk_frozen BK828.out 6) | ((with_reducible refine gate_callee (f := 41) rfl ?_); refine goesL_ (some 15) rfl rfl Try.func41 (by kernel_rfl) rfl #[.agg #[.int .i64 a0_1, .int .i64 a0_2, .int .i64 a0_3, .int .i64 a0_4], .agg #[.int .i64 a1_1, .int .i64 a1_2, .int .i64 a1_3, .int .i64 a1_4]] rfl ar_ ?_; (with_reducible refine (laws_eqWindow.calls a0_1 a0_2 a0_3 a0_4 a1_1 a1_2 a1_3 a1_4 true _ A5.out).mono ?_); rintro e w29 ⟨rfl, hb⟩; refine ⟨_, rfl, ?_⟩; replace BK827 := bB_ BK827 hb; replace BK828 := bB_ BK828 hb; replace HB := Aside0.mk (below_step (by repeat (first | (with_reducible first | exact HB.out | apply ba_ | apply bn_ | apply bd_ | refine bset_ ?_ (by assumption)) | exact HB.out)) hb); (try clear hb); (try clear hb2); (try clear hk); (try clear hi); have hcz30_0 : w29.cell? ⟨gb827, 0, none⟩ = some (.slice A0_0 l0_0.length c0_0) := (blk_cell BK827.out 0).trans rfl; have hcz30_1 : w29.cell? ⟨gb827, 1, none⟩ = some (.int .i64 a0_1) := (blk_cell BK827.out 1).trans rfl; have hcz30_2 : w29.cell? ⟨gb827, 2, none⟩ = some (.int .i64 a0_2) := (blk_cell BK827.out 2).trans rfl; have hcz30_3 : w29.cell? ⟨gb827, 3, none⟩ = some (.int .i64 a0_3) := (blk_cell BK827.out 3).trans rfl; have hcz30_4 : w29.cell? ⟨gb827, 4, none⟩ = some (.int .i64 a0_4) := (blk_cell BK827.out 4).trans rfl; have hcz30_5 : w29.cell? ⟨gb827, 5, none⟩ = some (.int .i64 a0_5) := (blk_cell BK827.out 5).trans rfl; have hcz30_6 : w29.cell? ⟨gb827, 6, none⟩ = some (.slice A0_6 l0_6.length c0_6) := (blk_cell BK827.out 6).trans rfl; have hfz30_0 := blk_frozen BK827.out 0; have hfz30_1 := blk_frozen BK827.out 1; have hfz30_2 := blk_frozen BK827.out 2; have hfz30_3 := blk_frozen BK827.out 3; have hfz30_4 := blk_frozen BK827.out 4; have hfz30_5 := blk_frozen BK827.out 5; have hfz30_6 := blk_frozen BK827.out 6; have hcz31_0 : w29.cell? ⟨gb828, 0, none⟩ = some (.slice A1_0 l1_0.length c1_0) := (blk_cell BK828.out 0).trans rfl; have hcz31_1 : w29.cell? ⟨gb828, 1, none⟩ = some (.int .i64 a1_1) := (blk_cell BK828.out 1).trans rfl; have hcz31_2 : w29.cell? ⟨gb828, 2, none⟩ = some (.int .i64 a1_2) := (blk_cell BK828.out 2).trans rfl; have hcz31_3 : w29.cell? ⟨gb828, 3, none⟩ = some (.int .i64 a1_3) := (blk_cell BK828.out 3).trans rfl; have hcz31_4 : w29.cell? ⟨gb828, 4, none⟩ = some (.int .i64 a1_4) := (blk_cell BK828.out 4).trans rfl; have hcz31_5 : w29.cell? ⟨gb828, 5, none⟩ = some (.int .i64 a1_5) := (blk_cell BK828.out 5).trans rfl; have hcz31_6 : w29.cell? ⟨gb828, 6, none⟩ = some (.slice A1_6 l1_6.length c1_6) := (blk_cell BK828.out 6).trans rfl; have hfz31_0 := blk_frozen BK828.out 0; have hfz31_1 := blk_frozen BK828.out 1; have hfz31_2 := blk_frozen BK828.out 2; have hfz31_3 := blk_frozen BK828.out 3; have hfz31_4 := blk_frozen BK828.out 4; have hfz31_5 := blk_frozen BK828.out 5; have hfz31_6 := blk_frozen BK828.out 6) | ((with_reducible refine gate_callee (f := 103) rfl ?_); refine goesL_ (some 26) rfl rfl Try.func103 (by kernel_rfl) rfl #[.slice A0_6 l0_6.length c0_6, .slice A1_6 l1_6.length c1_6] rfl ar_ ?_; (with_reducible refine (laws_eqIntS.calls k _ _ l0_6 _ _ l1_6 false _ ?side1 ?side2 ?side3 ?side4 A8.out).mono ?_); (case side1 => repeat (first | exact (Kd.C_below HR0_6.out HB.out) | (with_reducible refine Kd.C_alloc ?_ _) | (with_reducible refine Kd.C_drewN ?_ _) | (with_reducible refine Kd.C_drew ?_))); (case side2 => exact HC0_6.out); (case side3 => repeat (first | exact (Kd.C_below HR1_6.out HB.out) | (with_reducible refine Kd.C_alloc ?_ _) | (with_reducible refine Kd.C_drewN ?_ _) | (with_reducible refine Kd.C_drew ?_))); (case side4 => exact HC1_6.out); rintro e w' ⟨rfl, ⟨nd, rfl⟩⟩; refine ⟨_, rfl, ?_⟩))
     go_ret
     exact ⟨er_, by repeat (first | (with_reducible first | exact HB.out | apply below_alloc | apply pw_below_drewN | apply below_drew1 | refine below_set ?_ GE827.out | refine below_set ?_ GE828.out) | exact HB.out)⟩
   ·rw [if_neg c7] at H
    have c7b0 : (a0_5 == a1_5) = false := beq_eq_false_iff_ne.mpr c7
    have c7b1 : (a0_5 != a1_5) = true := bne_iff_ne.mpr c7
    obtain rfl := Option.some.inj H
    go_enter Try.func40, Try.ntmps40
    go_wp2_with (first | ((with_reducible refine gate_dst (N := 2) rfl ?_); refine box_event ?hg (N := 2) ?hd (cs := #[.slice A0_0 l0_0.length c0_0, .int .i64 a0_1, .int .i64 a0_2, .int .i64 a0_3, .int .i64 a0_4, .int .i64 a0_5, .slice A0_6 l0_6.length c0_6]) (t := 70) ?hr ?_; (case hd => rfl); (case hg => rfl); (case hr => exact gs_); intro gb827 hg w32 hbox hb; have BK827 := Aside0.mk (hbox); have GW827 := gE_ HB hg; have GE827 := gE_ HB hg; replace HB := Aside0.mk (below_step (by repeat (first | (with_reducible first | exact HB.out | apply ba_ | apply bn_ | apply bd_) | exact HB.out)) hb); clear hb hbox hg) | ((with_reducible refine gate_dst (N := 3) rfl ?_); refine box_event ?hg (N := 3) ?hd (cs := #[.slice A1_0 l1_0.length c1_0, .int .i64 a1_1, .int .i64 a1_2, .int .i64 a1_3, .int .i64 a1_4, .int .i64 a1_5, .slice A1_6 l1_6.length c1_6]) (t := 70) ?hr ?_; (case hd => rfl); (case hg => rfl); (case hr => exact gs_); intro gb828 hg w33 hbox hb; have BK828 := Aside0.mk (hbox); have GW828 := gE_ HB hg; have GE828 := gE_ HB hg; replace HB := Aside0.mk (below_step (by repeat (first | (with_reducible first | exact HB.out | apply ba_ | apply bn_ | apply bd_ | refine bset_ ?_ (by assumption)) | exact HB.out)) hb); have NB827_828 := nB_ BK827 hg; have NB828_827 := nA_ BK827 hg; replace BK827 := bB_ BK827 hb; clear hb hbox hg; have hnb34 := NB827_828.out; have hnc34 := NB828_827.out; have hcz35_0 : w33.cell? ⟨gb827, 0, none⟩ = some (.slice A0_0 l0_0.length c0_0) := (blk_cell BK827.out 0).trans rfl; have hcz35_1 : w33.cell? ⟨gb827, 1, none⟩ = some (.int .i64 a0_1) := (blk_cell BK827.out 1).trans rfl; have hcz35_2 : w33.cell? ⟨gb827, 2, none⟩ = some (.int .i64 a0_2) := (blk_cell BK827.out 2).trans rfl; have hcz35_3 : w33.cell? ⟨gb827, 3, none⟩ = some (.int .i64 a0_3) := (blk_cell BK827.out 3).trans rfl; have hcz35_4 : w33.cell? ⟨gb827, 4, none⟩ = some (.int .i64 a0_4) := (blk_cell BK827.out 4).trans rfl; have hcz35_5 : w33.cell? ⟨gb827, 5, none⟩ = some (.int .i64 a0_5) := (blk_cell BK827.out 5).trans rfl; have hcz35_6 : w33.cell? ⟨gb827, 6, none⟩ = some (.slice A0_6 l0_6.length c0_6) := (blk_cell BK827.out 6).trans rfl; have hfz35_0 := blk_frozen BK827.out 0; have hfz35_1 := blk_frozen BK827.out 1; have hfz35_2 := blk_frozen BK827.out 2; have hfz35_3 := blk_frozen BK827.out 3; have hfz35_4 := blk_frozen BK827.out 4; have hfz35_5 := blk_frozen BK827.out 5; have hfz35_6 := blk_frozen BK827.out 6; have hcz36_0 : w33.cell? ⟨gb828, 0, none⟩ = some (.slice A1_0 l1_0.length c1_0) := (blk_cell BK828.out 0).trans rfl; have hcz36_1 : w33.cell? ⟨gb828, 1, none⟩ = some (.int .i64 a1_1) := (blk_cell BK828.out 1).trans rfl; have hcz36_2 : w33.cell? ⟨gb828, 2, none⟩ = some (.int .i64 a1_2) := (blk_cell BK828.out 2).trans rfl; have hcz36_3 : w33.cell? ⟨gb828, 3, none⟩ = some (.int .i64 a1_3) := (blk_cell BK828.out 3).trans rfl; have hcz36_4 : w33.cell? ⟨gb828, 4, none⟩ = some (.int .i64 a1_4) := (blk_cell BK828.out 4).trans rfl; have hcz36_5 : w33.cell? ⟨gb828, 5, none⟩ = some (.int .i64 a1_5) := (blk_cell BK828.out 5).trans rfl; have hcz36_6 : w33.cell? ⟨gb828, 6, none⟩ = some (.slice A1_6 l1_6.length c1_6) := (blk_cell BK828.out 6).trans rfl; have hfz36_0 := blk_frozen BK828.out 0; have hfz36_1 := blk_frozen BK828.out 1; have hfz36_2 := blk_frozen BK828.out 2; have hfz36_3 := blk_frozen BK828.out 3; have hfz36_4 := blk_frozen BK828.out 4; have hfz36_5 := blk_frozen BK828.out 5; have hfz36_6 := blk_frozen BK828.out 6) | ((with_reducible refine gate_callee (f := 61) rfl ?_); refine goesL_ (some 9) rfl rfl Try.func61 (by kernel_rfl) rfl #[.agg #[.slice A0_0 l0_0.length c0_0], .agg #[.slice A1_0 l1_0.length c1_0]] rfl ar_ ?_; (with_reducible refine (laws_eqMemory.calls k _ _ l0_0 _ _ l1_0 true _ ?side1 ?side2 ?side3 ?side4 A3.out).mono ?_); (case side1 => repeat (first | exact (Kd.C_below HR0_0.out HB.out) | (with_reducible refine Kd.C_alloc ?_ _) | (with_reducible refine Kd.C_drewN ?_ _) | (with_reducible refine Kd.C_drew ?_))); (case side2 => exact HC0_0.out); (case side3 => repeat (first | exact (Kd.C_below HR1_0.out HB.out) | (with_reducible refine Kd.C_alloc ?_ _) | (with_reducible refine Kd.C_drewN ?_ _) | (with_reducible refine Kd.C_drew ?_))); (case side4 => exact HC1_0.out); rintro e w37 ⟨rfl, hb⟩; refine ⟨_, rfl, ?_⟩; replace BK827 := bB_ BK827 hb; replace BK828 := bB_ BK828 hb; replace HB := Aside0.mk (below_step (by repeat (first | (with_reducible first | exact HB.out | apply ba_ | apply bn_ | apply bd_ | refine bset_ ?_ (by assumption)) | exact HB.out)) hb); (try clear hb); (try clear hb2); (try clear hk); (try clear hi); have hcz38_0 : w37.cell? ⟨gb827, 0, none⟩ = some (.slice A0_0 l0_0.length c0_0) := (blk_cell BK827.out 0).trans rfl; have hcz38_1 : w37.cell? ⟨gb827, 1, none⟩ = some (.int .i64 a0_1) := (blk_cell BK827.out 1).trans rfl; have hcz38_2 : w37.cell? ⟨gb827, 2, none⟩ = some (.int .i64 a0_2) := (blk_cell BK827.out 2).trans rfl; have hcz38_3 : w37.cell? ⟨gb827, 3, none⟩ = some (.int .i64 a0_3) := (blk_cell BK827.out 3).trans rfl; have hcz38_4 : w37.cell? ⟨gb827, 4, none⟩ = some (.int .i64 a0_4) := (blk_cell BK827.out 4).trans rfl; have hcz38_5 : w37.cell? ⟨gb827, 5, none⟩ = some (.int .i64 a0_5) := (blk_cell BK827.out 5).trans rfl; have hcz38_6 : w37.cell? ⟨gb827, 6, none⟩ = some (.slice A0_6 l0_6.length c0_6) := (blk_cell BK827.out 6).trans rfl; have hfz38_0 := blk_frozen BK827.out 0; have hfz38_1 := blk_frozen BK827.out 1; have hfz38_2 := blk_frozen BK827.out 2; have hfz38_3 := blk_frozen BK827.out 3; have hfz38_4 := blk_frozen BK827.out 4; have hfz38_5 := blk_frozen BK827.out 5; have hfz38_6 := blk_frozen BK827.out 6; have hcz39_0 : w37.cell? ⟨gb828, 0, none⟩ = some (.slice A1_0 l1_0.length c1_0) := (blk_cell BK828.out 0).trans rfl; have hcz39_1 : w37.cell? ⟨gb828, 1, none⟩ = some (.int .i64 a1_1) := (blk_cell BK828.out 1).trans rfl; have hcz39_2 : w37.cell? ⟨gb828, 2, none⟩ = some (.int .i64 a1_2) := (blk_cell BK828.out 2).trans rfl; have hcz39_3 : w37.cell? ⟨gb828, 3, none⟩ = some (.int .i64 a1_3) := (blk_cell BK828.out 3).trans rfl; have hcz39_4 : w37.cell? ⟨gb828, 4, none⟩ = some (.int .i64 a1_4) := (blk_cell BK828.out 4).trans rfl; have hcz39_5 : w37.cell? ⟨gb828, 5, none⟩ = some (.int .i64 a1_5) := (blk_cell BK828.out 5).trans rfl; have hcz39_6 : w37.cell? ⟨gb828, 6, none⟩ = some (.slice A1_6 l1_6.length c1_6) := (blk_cell BK828.out 6).trans rfl; have hfz39_0 := blk_frozen BK828.out 0; have hfz39_1 := blk_frozen BK828.out 1; have hfz39_2 := blk_frozen BK828.out 2; have hfz39_3 := blk_frozen BK828.out 3; have hfz39_4 := blk_frozen BK828.out 4; have hfz39_5 := blk_frozen BK828.out 5; have hfz39_6 := blk_frozen BK828.out 6) | ((with_reducible refine gate_callee (f := 41) rfl ?_); refine goesL_ (some 15) rfl rfl Try.func41 (by kernel_rfl) rfl #[.agg #[.int .i64 a0_1, .int .i64 a0_2, .int .i64 a0_3, .int .i64 a0_4], .agg #[.int .i64 a1_1, .int .i64 a1_2, .int .i64 a1_3, .int .i64 a1_4]] rfl ar_ ?_; (with_reducible refine (laws_eqWindow.calls a0_1 a0_2 a0_3 a0_4 a1_1 a1_2 a1_3 a1_4 true _ A5.out).mono ?_); rintro e w40 ⟨rfl, hb⟩; refine ⟨_, rfl, ?_⟩; replace BK827 := bB_ BK827 hb; replace BK828 := bB_ BK828 hb; replace HB := Aside0.mk (below_step (by repeat (first | (with_reducible first | exact HB.out | apply ba_ | apply bn_ | apply bd_ | refine bset_ ?_ (by assumption)) | exact HB.out)) hb); (try clear hb); (try clear hb2); (try clear hk); (try clear hi); have hcz41_0 : w40.cell? ⟨gb827, 0, none⟩ = some (.slice A0_0 l0_0.length c0_0) := (blk_cell BK827.out 0).trans rfl; have hcz41_1 : w40.cell? ⟨gb827, 1, none⟩ = some (.int .i64 a0_1) := (blk_cell BK827.out 1).trans rfl; have hcz41_2 : w40.cell? ⟨gb827, 2, none⟩ = some (.int .i64 a0_2) := (blk_cell BK827.out 2).trans rfl; have hcz41_3 : w40.cell? ⟨gb827, 3, none⟩ = some (.int .i64 a0_3) := (blk_cell BK827.out 3).trans rfl; have hcz41_4 : w40.cell? ⟨gb827, 4, none⟩ = some (.int .i64 a0_4) := (blk_cell BK827.out 4).trans rfl; have hcz41_5 : w40.cell? ⟨gb827, 5, none⟩ = some (.int .i64 a0_5) := (blk_cell BK827.out 5).trans rfl; have hcz41_6 : w40.cell? ⟨gb827, 6, none⟩ = some (.slice A0_6 l0_6.length c0_6) := (blk_cell BK827.out 6).trans rfl; have hfz41_0 := blk_frozen BK827.out 0; have hfz41_1 := blk_frozen BK827.out 1; have hfz41_2 := blk_frozen BK827.out 2; have hfz41_3 := blk_frozen BK827.out 3; have hfz41_4 := blk_frozen BK827.out 4; have hfz41_5 := blk_frozen BK827.out 5; have hfz41_6 := blk_frozen BK827.out 6; have hcz42_0 : w40.cell? ⟨gb828, 0, none⟩ = some (.slice A1_0 l1_0.length c1_0) := (blk_cell BK828.out 0).trans rfl; have hcz42_1 : w40.cell? ⟨gb828, 1, none⟩ = some (.int .i64 a1_1) := (blk_cell BK828.out 1).trans rfl; have hcz42_2 : w40.cell? ⟨gb828, 2, none⟩ = some (.int .i64 a1_2) := (blk_cell BK828.out 2).trans rfl; have hcz42_3 : w40.cell? ⟨gb828, 3, none⟩ = some (.int .i64 a1_3) := (blk_cell BK828.out 3).trans rfl; have hcz42_4 : w40.cell? ⟨gb828, 4, none⟩ = some (.int .i64 a1_4) := (blk_cell BK828.out 4).trans rfl; have hcz42_5 : w40.cell? ⟨gb828, 5, none⟩ = some (.int .i64 a1_5) := (blk_cell BK828.out 5).trans rfl; have hcz42_6 : w40.cell? ⟨gb828, 6, none⟩ = some (.slice A1_6 l1_6.length c1_6) := (blk_cell BK828.out 6).trans rfl; have hfz42_0 := blk_frozen BK828.out 0; have hfz42_1 := blk_frozen BK828.out 1; have hfz42_2 := blk_frozen BK828.out 2; have hfz42_3 := blk_frozen BK828.out 3; have hfz42_4 := blk_frozen BK828.out 4; have hfz42_5 := blk_frozen BK828.out 5; have hfz42_6 := blk_frozen BK828.out 6))
    go_ret
    exact ⟨er_, by repeat (first | (with_reducible first | exact HB.out | apply below_alloc | apply pw_below_drewN | apply below_drew1 | refine below_set ?_ GE827.out | refine below_set ?_ GE828.out) | exact HB.out)⟩
  ·replace c6 := Bool.eq_false_iff.mpr c6
   subst c6
   rw [if_neg (show ¬ (false = true) by decide)] at H
   obtain rfl := Option.some.inj H
   go_enter Try.func40, Try.ntmps40
   go_wp2_with (first | ((with_reducible refine gate_dst (N := 2) rfl ?_); refine box_event ?hg (N := 2) ?hd (cs := #[.slice A0_0 l0_0.length c0_0, .int .i64 a0_1, .int .i64 a0_2, .int .i64 a0_3, .int .i64 a0_4, .int .i64 a0_5, .slice A0_6 l0_6.length c0_6]) (t := 70) ?hr ?_; (case hd => rfl); (case hg => rfl); (case hr => exact gs_); intro gb827 hg w43 hbox hb; have BK827 := Aside0.mk (hbox); have GW827 := gE_ HB hg; have GE827 := gE_ HB hg; replace HB := Aside0.mk (below_step (by repeat (first | (with_reducible first | exact HB.out | apply ba_ | apply bn_ | apply bd_) | exact HB.out)) hb); clear hb hbox hg) | ((with_reducible refine gate_dst (N := 3) rfl ?_); refine box_event ?hg (N := 3) ?hd (cs := #[.slice A1_0 l1_0.length c1_0, .int .i64 a1_1, .int .i64 a1_2, .int .i64 a1_3, .int .i64 a1_4, .int .i64 a1_5, .slice A1_6 l1_6.length c1_6]) (t := 70) ?hr ?_; (case hd => rfl); (case hg => rfl); (case hr => exact gs_); intro gb828 hg w44 hbox hb; have BK828 := Aside0.mk (hbox); have GW828 := gE_ HB hg; have GE828 := gE_ HB hg; replace HB := Aside0.mk (below_step (by repeat (first | (with_reducible first | exact HB.out | apply ba_ | apply bn_ | apply bd_ | refine bset_ ?_ (by assumption)) | exact HB.out)) hb); have NB827_828 := nB_ BK827 hg; have NB828_827 := nA_ BK827 hg; replace BK827 := bB_ BK827 hb; clear hb hbox hg; have hnb45 := NB827_828.out; have hnc45 := NB828_827.out; have hcz46_0 : w44.cell? ⟨gb827, 0, none⟩ = some (.slice A0_0 l0_0.length c0_0) := (blk_cell BK827.out 0).trans rfl; have hcz46_1 : w44.cell? ⟨gb827, 1, none⟩ = some (.int .i64 a0_1) := (blk_cell BK827.out 1).trans rfl; have hcz46_2 : w44.cell? ⟨gb827, 2, none⟩ = some (.int .i64 a0_2) := (blk_cell BK827.out 2).trans rfl; have hcz46_3 : w44.cell? ⟨gb827, 3, none⟩ = some (.int .i64 a0_3) := (blk_cell BK827.out 3).trans rfl; have hcz46_4 : w44.cell? ⟨gb827, 4, none⟩ = some (.int .i64 a0_4) := (blk_cell BK827.out 4).trans rfl; have hcz46_5 : w44.cell? ⟨gb827, 5, none⟩ = some (.int .i64 a0_5) := (blk_cell BK827.out 5).trans rfl; have hcz46_6 : w44.cell? ⟨gb827, 6, none⟩ = some (.slice A0_6 l0_6.length c0_6) := (blk_cell BK827.out 6).trans rfl; have hfz46_0 := blk_frozen BK827.out 0; have hfz46_1 := blk_frozen BK827.out 1; have hfz46_2 := blk_frozen BK827.out 2; have hfz46_3 := blk_frozen BK827.out 3; have hfz46_4 := blk_frozen BK827.out 4; have hfz46_5 := blk_frozen BK827.out 5; have hfz46_6 := blk_frozen BK827.out 6; have hcz47_0 : w44.cell? ⟨gb828, 0, none⟩ = some (.slice A1_0 l1_0.length c1_0) := (blk_cell BK828.out 0).trans rfl; have hcz47_1 : w44.cell? ⟨gb828, 1, none⟩ = some (.int .i64 a1_1) := (blk_cell BK828.out 1).trans rfl; have hcz47_2 : w44.cell? ⟨gb828, 2, none⟩ = some (.int .i64 a1_2) := (blk_cell BK828.out 2).trans rfl; have hcz47_3 : w44.cell? ⟨gb828, 3, none⟩ = some (.int .i64 a1_3) := (blk_cell BK828.out 3).trans rfl; have hcz47_4 : w44.cell? ⟨gb828, 4, none⟩ = some (.int .i64 a1_4) := (blk_cell BK828.out 4).trans rfl; have hcz47_5 : w44.cell? ⟨gb828, 5, none⟩ = some (.int .i64 a1_5) := (blk_cell BK828.out 5).trans rfl; have hcz47_6 : w44.cell? ⟨gb828, 6, none⟩ = some (.slice A1_6 l1_6.length c1_6) := (blk_cell BK828.out 6).trans rfl; have hfz47_0 := blk_frozen BK828.out 0; have hfz47_1 := blk_frozen BK828.out 1; have hfz47_2 := blk_frozen BK828.out 2; have hfz47_3 := blk_frozen BK828.out 3; have hfz47_4 := blk_frozen BK828.out 4; have hfz47_5 := blk_frozen BK828.out 5; have hfz47_6 := blk_frozen BK828.out 6) | ((with_reducible refine gate_callee (f := 61) rfl ?_); refine goesL_ (some 9) rfl rfl Try.func61 (by kernel_rfl) rfl #[.agg #[.slice A0_0 l0_0.length c0_0], .agg #[.slice A1_0 l1_0.length c1_0]] rfl ar_ ?_; (with_reducible refine (laws_eqMemory.calls k _ _ l0_0 _ _ l1_0 true _ ?side1 ?side2 ?side3 ?side4 A3.out).mono ?_); (case side1 => repeat (first | exact (Kd.C_below HR0_0.out HB.out) | (with_reducible refine Kd.C_alloc ?_ _) | (with_reducible refine Kd.C_drewN ?_ _) | (with_reducible refine Kd.C_drew ?_))); (case side2 => exact HC0_0.out); (case side3 => repeat (first | exact (Kd.C_below HR1_0.out HB.out) | (with_reducible refine Kd.C_alloc ?_ _) | (with_reducible refine Kd.C_drewN ?_ _) | (with_reducible refine Kd.C_drew ?_))); (case side4 => exact HC1_0.out); rintro e w48 ⟨rfl, hb⟩; refine ⟨_, rfl, ?_⟩; replace BK827 := bB_ BK827 hb; replace BK828 := bB_ BK828 hb; replace HB := Aside0.mk (below_step (by repeat (first | (with_reducible first | exact HB.out | apply ba_ | apply bn_ | apply bd_ | refine bset_ ?_ (by assumption)) | exact HB.out)) hb); (try clear hb); (try clear hb2); (try clear hk); (try clear hi); have hcz49_0 : w48.cell? ⟨gb827, 0, none⟩ = some (.slice A0_0 l0_0.length c0_0) := (blk_cell BK827.out 0).trans rfl; have hcz49_1 : w48.cell? ⟨gb827, 1, none⟩ = some (.int .i64 a0_1) := (blk_cell BK827.out 1).trans rfl; have hcz49_2 : w48.cell? ⟨gb827, 2, none⟩ = some (.int .i64 a0_2) := (blk_cell BK827.out 2).trans rfl; have hcz49_3 : w48.cell? ⟨gb827, 3, none⟩ = some (.int .i64 a0_3) := (blk_cell BK827.out 3).trans rfl; have hcz49_4 : w48.cell? ⟨gb827, 4, none⟩ = some (.int .i64 a0_4) := (blk_cell BK827.out 4).trans rfl; have hcz49_5 : w48.cell? ⟨gb827, 5, none⟩ = some (.int .i64 a0_5) := (blk_cell BK827.out 5).trans rfl; have hcz49_6 : w48.cell? ⟨gb827, 6, none⟩ = some (.slice A0_6 l0_6.length c0_6) := (blk_cell BK827.out 6).trans rfl; have hfz49_0 := blk_frozen BK827.out 0; have hfz49_1 := blk_frozen BK827.out 1; have hfz49_2 := blk_frozen BK827.out 2; have hfz49_3 := blk_frozen BK827.out 3; have hfz49_4 := blk_frozen BK827.out 4; have hfz49_5 := blk_frozen BK827.out 5; have hfz49_6 := blk_frozen BK827.out 6; have hcz50_0 : w48.cell? ⟨gb828, 0, none⟩ = some (.slice A1_0 l1_0.length c1_0) := (blk_cell BK828.out 0).trans rfl; have hcz50_1 : w48.cell? ⟨gb828, 1, none⟩ = some (.int .i64 a1_1) := (blk_cell BK828.out 1).trans rfl; have hcz50_2 : w48.cell? ⟨gb828, 2, none⟩ = some (.int .i64 a1_2) := (blk_cell BK828.out 2).trans rfl; have hcz50_3 : w48.cell? ⟨gb828, 3, none⟩ = some (.int .i64 a1_3) := (blk_cell BK828.out 3).trans rfl; have hcz50_4 : w48.cell? ⟨gb828, 4, none⟩ = some (.int .i64 a1_4) := (blk_cell BK828.out 4).trans rfl; have hcz50_5 : w48.cell? ⟨gb828, 5, none⟩ = some (.int .i64 a1_5) := (blk_cell BK828.out 5).trans rfl; have hcz50_6 : w48.cell? ⟨gb828, 6, none⟩ = some (.slice A1_6 l1_6.length c1_6) := (blk_cell BK828.out 6).trans rfl; have hfz50_0 := blk_frozen BK828.out 0; have hfz50_1 := blk_frozen BK828.out 1; have hfz50_2 := blk_frozen BK828.out 2; have hfz50_3 := blk_frozen BK828.out 3; have hfz50_4 := blk_frozen BK828.out 4; have hfz50_5 := blk_frozen BK828.out 5; have hfz50_6 := blk_frozen BK828.out 6) | ((with_reducible refine gate_callee (f := 41) rfl ?_); refine goesL_ (some 15) rfl rfl Try.func41 (by kernel_rfl) rfl #[.agg #[.int .i64 a0_1, .int .i64 a0_2, .int .i64 a0_3, .int .i64 a0_4], .agg #[.int .i64 a1_1, .int .i64 a1_2, .int .i64 a1_3, .int .i64 a1_4]] rfl ar_ ?_; (with_reducible refine (laws_eqWindow.calls a0_1 a0_2 a0_3 a0_4 a1_1 a1_2 a1_3 a1_4 false _ A5.out).mono ?_); rintro e w51 ⟨rfl, hb⟩; refine ⟨_, rfl, ?_⟩; replace BK827 := bB_ BK827 hb; replace BK828 := bB_ BK828 hb; replace HB := Aside0.mk (below_step (by repeat (first | (with_reducible first | exact HB.out | apply ba_ | apply bn_ | apply bd_ | refine bset_ ?_ (by assumption)) | exact HB.out)) hb); (try clear hb); (try clear hb2); (try clear hk); (try clear hi)))
   go_ret
   exact ⟨er_, by repeat (first | (with_reducible first | exact HB.out | apply below_alloc | apply pw_below_drewN | apply below_drew1 | refine below_set ?_ GE827.out | refine below_set ?_ GE828.out) | exact HB.out)⟩
 ·replace c4 := Bool.eq_false_iff.mpr c4
  subst c4
  rw [if_neg (show ¬ (false = true) by decide)] at H
  obtain rfl := Option.some.inj H
  go_enter Try.func40, Try.ntmps40
  go_wp2_with (first | ((with_reducible refine gate_dst (N := 2) rfl ?_); refine box_event ?hg (N := 2) ?hd (cs := #[.slice A0_0 l0_0.length c0_0, .int .i64 a0_1, .int .i64 a0_2, .int .i64 a0_3, .int .i64 a0_4, .int .i64 a0_5, .slice A0_6 l0_6.length c0_6]) (t := 70) ?hr ?_; (case hd => rfl); (case hg => rfl); (case hr => exact gs_); intro gb827 hg w52 hbox hb; have BK827 := Aside0.mk (hbox); have GW827 := gE_ HB hg; have GE827 := gE_ HB hg; replace HB := Aside0.mk (below_step (by repeat (first | (with_reducible first | exact HB.out | apply ba_ | apply bn_ | apply bd_) | exact HB.out)) hb); clear hb hbox hg) | ((with_reducible refine gate_dst (N := 3) rfl ?_); refine box_event ?hg (N := 3) ?hd (cs := #[.slice A1_0 l1_0.length c1_0, .int .i64 a1_1, .int .i64 a1_2, .int .i64 a1_3, .int .i64 a1_4, .int .i64 a1_5, .slice A1_6 l1_6.length c1_6]) (t := 70) ?hr ?_; (case hd => rfl); (case hg => rfl); (case hr => exact gs_); intro gb828 hg w53 hbox hb; have BK828 := Aside0.mk (hbox); have GW828 := gE_ HB hg; have GE828 := gE_ HB hg; replace HB := Aside0.mk (below_step (by repeat (first | (with_reducible first | exact HB.out | apply ba_ | apply bn_ | apply bd_ | refine bset_ ?_ (by assumption)) | exact HB.out)) hb); have NB827_828 := nB_ BK827 hg; have NB828_827 := nA_ BK827 hg; replace BK827 := bB_ BK827 hb; clear hb hbox hg; have hnb54 := NB827_828.out; have hnc54 := NB828_827.out; have hcz55_0 : w53.cell? ⟨gb827, 0, none⟩ = some (.slice A0_0 l0_0.length c0_0) := (blk_cell BK827.out 0).trans rfl; have hcz55_1 : w53.cell? ⟨gb827, 1, none⟩ = some (.int .i64 a0_1) := (blk_cell BK827.out 1).trans rfl; have hcz55_2 : w53.cell? ⟨gb827, 2, none⟩ = some (.int .i64 a0_2) := (blk_cell BK827.out 2).trans rfl; have hcz55_3 : w53.cell? ⟨gb827, 3, none⟩ = some (.int .i64 a0_3) := (blk_cell BK827.out 3).trans rfl; have hcz55_4 : w53.cell? ⟨gb827, 4, none⟩ = some (.int .i64 a0_4) := (blk_cell BK827.out 4).trans rfl; have hcz55_5 : w53.cell? ⟨gb827, 5, none⟩ = some (.int .i64 a0_5) := (blk_cell BK827.out 5).trans rfl; have hcz55_6 : w53.cell? ⟨gb827, 6, none⟩ = some (.slice A0_6 l0_6.length c0_6) := (blk_cell BK827.out 6).trans rfl; have hfz55_0 := blk_frozen BK827.out 0; have hfz55_1 := blk_frozen BK827.out 1; have hfz55_2 := blk_frozen BK827.out 2; have hfz55_3 := blk_frozen BK827.out 3; have hfz55_4 := blk_frozen BK827.out 4; have hfz55_5 := blk_frozen BK827.out 5; have hfz55_6 := blk_frozen BK827.out 6; have hcz56_0 : w53.cell? ⟨gb828, 0, none⟩ = some (.slice A1_0 l1_0.length c1_0) := (blk_cell BK828.out 0).trans rfl; have hcz56_1 : w53.cell? ⟨gb828, 1, none⟩ = some (.int .i64 a1_1) := (blk_cell BK828.out 1).trans rfl; have hcz56_2 : w53.cell? ⟨gb828, 2, none⟩ = some (.int .i64 a1_2) := (blk_cell BK828.out 2).trans rfl; have hcz56_3 : w53.cell? ⟨gb828, 3, none⟩ = some (.int .i64 a1_3) := (blk_cell BK828.out 3).trans rfl; have hcz56_4 : w53.cell? ⟨gb828, 4, none⟩ = some (.int .i64 a1_4) := (blk_cell BK828.out 4).trans rfl; have hcz56_5 : w53.cell? ⟨gb828, 5, none⟩ = some (.int .i64 a1_5) := (blk_cell BK828.out 5).trans rfl; have hcz56_6 : w53.cell? ⟨gb828, 6, none⟩ = some (.slice A1_6 l1_6.length c1_6) := (blk_cell BK828.out 6).trans rfl; have hfz56_0 := blk_frozen BK828.out 0; have hfz56_1 := blk_frozen BK828.out 1; have hfz56_2 := blk_frozen BK828.out 2; have hfz56_3 := blk_frozen BK828.out 3; have hfz56_4 := blk_frozen BK828.out 4; have hfz56_5 := blk_frozen BK828.out 5; have hfz56_6 := blk_frozen BK828.out 6) | ((with_reducible refine gate_callee (f := 61) rfl ?_); refine goesL_ (some 9) rfl rfl Try.func61 (by kernel_rfl) rfl #[.agg #[.slice A0_0 l0_0.length c0_0], .agg #[.slice A1_0 l1_0.length c1_0]] rfl ar_ ?_; (with_reducible refine (laws_eqMemory.calls k _ _ l0_0 _ _ l1_0 false _ ?side1 ?side2 ?side3 ?side4 A3.out).mono ?_); (case side1 => repeat (first | exact (Kd.C_below HR0_0.out HB.out) | (with_reducible refine Kd.C_alloc ?_ _) | (with_reducible refine Kd.C_drewN ?_ _) | (with_reducible refine Kd.C_drew ?_))); (case side2 => exact HC0_0.out); (case side3 => repeat (first | exact (Kd.C_below HR1_0.out HB.out) | (with_reducible refine Kd.C_alloc ?_ _) | (with_reducible refine Kd.C_drewN ?_ _) | (with_reducible refine Kd.C_drew ?_))); (case side4 => exact HC1_0.out); rintro e w57 ⟨rfl, hb⟩; refine ⟨_, rfl, ?_⟩; replace BK827 := bB_ BK827 hb; replace BK828 := bB_ BK828 hb; replace HB := Aside0.mk (below_step (by repeat (first | (with_reducible first | exact HB.out | apply ba_ | apply bn_ | apply bd_ | refine bset_ ?_ (by assumption)) | exact HB.out)) hb); (try clear hb); (try clear hb2); (try clear hk); (try clear hi)))
  go_ret
  exact ⟨er_, by repeat (first | (with_reducible first | exact HB.out | apply below_alloc | apply pw_below_drewN | apply below_drew1 | refine below_set ?_ GE827.out | refine below_set ?_ GE828.out) | exact HB.out)⟩
end Go.Proofs.Ytmkcbbbknbahgaa.P
namespace Go.Proofs.Ytmkcbbbknbahgaa.P
open Go.RowKit Go.Proofs.YtmkcbbbknbahgaaW.PrintWords Go.Proofs.YtmkcbbbknbahgaaW.PrintLast Go.Proofs.YtmkcbbbknbahgaaW.PrintMore
attribute [local go_sem] max2_int min2_int max_two min_two max_three min_three max_four min_four   -- for this text's walks alone
set_option linter.unusedVariables false
set_option linter.unusedSimpArgs false

def laws_heldIntS.l0 : Nat → List Int → Int → Int → Option (Int)
 | 0, _, _, _ => none
 | k + 1, x0, x1, x5 => if x5 < (x0.length : Int) then (if 0 ≤ x5 then (if (rd x0 x5) = x1 then (laws_heldIntS.l0 k x0 (wrap64 (x1 + 1)) (wrap64 (x5 + 1))) else (some (-1))) else (none)) else (some x1)

def laws_heldIntS.f (k : Nat) (l0 : List Int) (a1 : Int) : Option (Int) := laws_heldIntS.l0 k l0 a1 0

set_option maxHeartbeats 8000000 in
set_option maxRecDepth 100000 in
theorem laws_heldIntS.calls (k : Nat) (A0 : Option Addr) (c0 : Nat) (l0 : List Int) (a1 : Int) (r : Int) (w : World) (hr0 : Kd.C (Kd.int .i64) w A0 l0.length l0) (hc0 : l0.length ≤ c0) (h : laws_heldIntS.f k l0 a1 = some r) :
  Calls Try.prog 105 #[.slice A0 l0.length c0, .int .i64 a1] w fun e w' => e = .returned (.int .i64 r) ∧ Drawn0 w w' := by
 have HR0 := Aside0.mk hr0
 have HC0 := Aside0.mk hc0
 clear hr0 hc0
 have H : (laws_heldIntS.l0 k l0 a1 0) = some r := h
 clear h
 have H' := Aside0.mk H
 clear H
 go_enter Try.func105, Try.ntmps105
 go_wp2
 go_loopg [1, 5] k (fun kq v1 v5 w' => ∃ (x1_1 : Int) (x5_1 : Int), v1 = .int .i64 x1_1 ∧ v5 = .int .i64 x5_1 ∧ Aside0 (laws_heldIntS.l0 kq l0 x1_1 x5_1 = some r) ∧ Aside0 (kq ≤ k) ∧ Drawn0 w w')
 case atStart => exact ⟨(a1), (0), (by first | rfl | (simp; done) | (simp [*]; done)), (by first | rfl | (simp; done) | (simp [*]; done)), H', ⟨Nat.le_refl _⟩, by repeat (first | exact Drawn0.refl _ | apply Drawn0.step)⟩
 case round =>
  clear H'
  try clear c1
  try clear p2
  obtain ⟨x1_1, x5_1, rfl, rfl, HA, HK1, ⟨m1, rfl⟩⟩ := hrel
  cases gk with
  | zero => exact absurd HA.out (by simp [laws_heldIntS.l0])
  | succ k1 =>
   have H := HA.out
   clear HA
   simp only [laws_heldIntS.l0] at H
   by_cases c3 : x5_1 < (l0.length : Int)
   ·rw [if_pos c3] at H
    have c3b0 : decide (x5_1 < (l0.length : Int)) = true := decide_eq_true c3
    clear c3
    by_cases c4 : 0 ≤ x5_1
    ·rw [if_pos c4] at H
     have c4b0 : decide (0 ≤ x5_1) = true := decide_eq_true c4
     clear c4
     by_cases c5 : (rd l0 x5_1) = x1_1
     ·rw [if_pos c5] at H
      have c5b0 : ((rd l0 x5_1) == x1_1) = true := beq_iff_eq.mpr c5
      have c5b1 : ((rd l0 x5_1) != x1_1) = false := bne_eq_false_iff_eq.mpr c5
      clear c5
      have H' := Aside0.mk H
      clear H
      have p834 : 0 ≤ (x5_1 : Int) := of_decide_eq_true as_
      have q834 : x5_1 < (l0.length : Int) := of_decide_eq_true as_
      obtain ⟨ad834, e834, hx834_0⟩ := Kd.at_int HR0.out x5_1 p834 q834
      cases e834
      replace p834 := eq_true p834
      replace q834 := eq_true q834
      go_wp2
      go_roundg k1
      case measure => have := HK1.out; omega
      case rel => exact ⟨(wrap64 (x1_1 + 1)), (wrap64 (x5_1 + 1)), (by first | rfl | (simp; done) | (simp [*]; done)), (by first | rfl | (simp; done) | (simp [*]; done)), H', ⟨by have := HK1.out; omega⟩, by repeat (first | exact Drawn0.refl _ | apply Drawn0.step)⟩
     ·rw [if_neg c5] at H
      have c5b0 : ((rd l0 x5_1) == x1_1) = false := beq_eq_false_iff_ne.mpr c5
      have c5b1 : ((rd l0 x5_1) != x1_1) = true := bne_iff_ne.mpr c5
      obtain rfl := Option.some.inj H
      have p834 : 0 ≤ (x5_1 : Int) := of_decide_eq_true as_
      have q834 : x5_1 < (l0.length : Int) := of_decide_eq_true as_
      obtain ⟨ad834, e834, hx834_0⟩ := Kd.at_int HR0.out x5_1 p834 q834
      cases e834
      replace p834 := eq_true p834
      replace q834 := eq_true q834
      go_wp2
      go_ret
      exact ⟨by first | rfl | (simp; done) | (simp [*]; done), by repeat (first | exact Drawn0.refl _ | apply Drawn0.step)⟩
    ·rw [if_neg c4] at H
     exact absurd H (by simp)
   ·rw [if_neg c3] at H
    have c3b0 : decide (x5_1 < (l0.length : Int)) = false := decide_eq_false c3
    clear c3
    obtain rfl := Option.some.inj H
    go_wp2
    go_ret
    exact ⟨by first | rfl | (simp; done) | (simp [*]; done), by repeat (first | exact Drawn0.refl _ | apply Drawn0.step)⟩
end Go.Proofs.Ytmkcbbbknbahgaa.P
namespace Go.Proofs.Ytmkcbbbknbahgaa.P
open Go.RowKit Go.Proofs.YtmkcbbbknbahgaaW.PrintWords Go.Proofs.YtmkcbbbknbahgaaW.PrintLast Go.Proofs.YtmkcbbbknbahgaaW.PrintMore
attribute [local go_sem] max2_int min2_int max_two min_two max_three min_three max_four min_four   -- for this text's walks alone
set_option linter.unusedVariables false
set_option linter.unusedSimpArgs false

def laws_heldByteS.l0 : Nat → List Int → Int → Int → Option (Int)
 | 0, _, _, _ => none
 | k + 1, x0, x1, x5 => if x5 < (x0.length : Int) then (if 0 ≤ x5 then (if (rd x0 x5) = ((x1) % 256) then (laws_heldByteS.l0 k x0 (wrap64 (x1 + 1)) (wrap64 (x5 + 1))) else (some (-1))) else (none)) else (some x1)

def laws_heldByteS.f (k : Nat) (l0 : List Int) (a1 : Int) : Option (Int) := laws_heldByteS.l0 k l0 a1 0

set_option maxHeartbeats 8000000 in
set_option maxRecDepth 100000 in
theorem laws_heldByteS.calls (k : Nat) (A0 : Option Addr) (c0 : Nat) (l0 : List Int) (a1 : Int) (r : Int) (w : World) (hr0 : Kd.C (Kd.int .u8) w A0 l0.length l0) (hc0 : l0.length ≤ c0) (h : laws_heldByteS.f k l0 a1 = some r) :
  Calls Try.prog 163 #[.slice A0 l0.length c0, .int .i64 a1] w fun e w' => e = .returned (.int .i64 r) ∧ Drawn0 w w' := by
 have HR0 := Aside0.mk hr0
 have HC0 := Aside0.mk hc0
 clear hr0 hc0
 have H : (laws_heldByteS.l0 k l0 a1 0) = some r := h
 clear h
 have H' := Aside0.mk H
 clear H
 go_enter Try.func163, Try.ntmps163
 go_wp2
 go_loopg [1, 5] k (fun kq v1 v5 w' => ∃ (x1_1 : Int) (x5_1 : Int), v1 = .int .i64 x1_1 ∧ v5 = .int .i64 x5_1 ∧ Aside0 (laws_heldByteS.l0 kq l0 x1_1 x5_1 = some r) ∧ Aside0 (kq ≤ k) ∧ Drawn0 w w')
 case atStart => exact ⟨(a1), (0), (by first | rfl | (simp; done) | (simp [*]; done)), (by first | rfl | (simp; done) | (simp [*]; done)), H', ⟨Nat.le_refl _⟩, by repeat (first | exact Drawn0.refl _ | apply Drawn0.step)⟩
 case round =>
  clear H'
  try clear c1
  try clear p2
  obtain ⟨x1_1, x5_1, rfl, rfl, HA, HK1, ⟨m1, rfl⟩⟩ := hrel
  cases gk with
  | zero => exact absurd HA.out (by simp [laws_heldByteS.l0])
  | succ k1 =>
   have H := HA.out
   clear HA
   simp only [laws_heldByteS.l0] at H
   by_cases c3 : x5_1 < (l0.length : Int)
   ·rw [if_pos c3] at H
    have c3b0 : decide (x5_1 < (l0.length : Int)) = true := decide_eq_true c3
    clear c3
    by_cases c4 : 0 ≤ x5_1
    ·rw [if_pos c4] at H
     have c4b0 : decide (0 ≤ x5_1) = true := decide_eq_true c4
     clear c4
     by_cases c5 : (rd l0 x5_1) = ((x1_1) % 256)
     ·rw [if_pos c5] at H
      have c5b0 : ((rd l0 x5_1) == ((x1_1) % 256)) = true := beq_iff_eq.mpr c5
      have c5b1 : ((rd l0 x5_1) != ((x1_1) % 256)) = false := bne_eq_false_iff_eq.mpr c5
      clear c5
      have H' := Aside0.mk H
      clear H
      have p375 : 0 ≤ (x5_1 : Int) := of_decide_eq_true as_
      have q375 : x5_1 < (l0.length : Int) := of_decide_eq_true as_
      obtain ⟨ad375, e375, hx375_0⟩ := Kd.at_int HR0.out x5_1 p375 q375
      cases e375
      replace p375 := eq_true p375
      replace q375 := eq_true q375
      go_wp2
      go_roundg k1
      case measure => have := HK1.out; omega
      case rel => exact ⟨(wrap64 (x1_1 + 1)), (wrap64 (x5_1 + 1)), (by first | rfl | (simp; done) | (simp [*]; done)), (by first | rfl | (simp; done) | (simp [*]; done)), H', ⟨by have := HK1.out; omega⟩, by repeat (first | exact Drawn0.refl _ | apply Drawn0.step)⟩
     ·rw [if_neg c5] at H
      have c5b0 : ((rd l0 x5_1) == ((x1_1) % 256)) = false := beq_eq_false_iff_ne.mpr c5
      have c5b1 : ((rd l0 x5_1) != ((x1_1) % 256)) = true := bne_iff_ne.mpr c5
      obtain rfl := Option.some.inj H
      have p375 : 0 ≤ (x5_1 : Int) := of_decide_eq_true as_
      have q375 : x5_1 < (l0.length : Int) := of_decide_eq_true as_
      obtain ⟨ad375, e375, hx375_0⟩ := Kd.at_int HR0.out x5_1 p375 q375
      cases e375
      replace p375 := eq_true p375
      replace q375 := eq_true q375
      go_wp2
      go_ret
      exact ⟨by first | rfl | (simp; done) | (simp [*]; done), by repeat (first | exact Drawn0.refl _ | apply Drawn0.step)⟩
    ·rw [if_neg c4] at H
     exact absurd H (by simp)
   ·rw [if_neg c3] at H
    have c3b0 : decide (x5_1 < (l0.length : Int)) = false := decide_eq_false c3
    clear c3
    obtain rfl := Option.some.inj H
    go_wp2
    go_ret
    exact ⟨by first | rfl | (simp; done) | (simp [*]; done), by repeat (first | exact Drawn0.refl _ | apply Drawn0.step)⟩
end Go.Proofs.Ytmkcbbbknbahgaa.P
namespace Go.Proofs.Ytmkcbbbknbahgaa.P
open Go.RowKit Go.Proofs.YtmkcbbbknbahgaaW.PrintWords Go.Proofs.YtmkcbbbknbahgaaW.PrintLast Go.Proofs.YtmkcbbbknbahgaaW.PrintMore
attribute [local go_sem] max2_int min2_int max_two min_two max_three min_three max_four min_four   -- for this text's walks alone
set_option linter.unusedVariables false
set_option linter.unusedSimpArgs false

def laws_heldByteSS.l0 : Nat → List (List Int) → Int → Int → Option (Int)
 | 0, _, _, _ => none
 | k + 1, x0, x1, x5 => if x5 < (x0.length : Int) then (if 0 ≤ x5 then ((laws_heldByteS.f k (rd_L1 x0 x5) x1).bind fun t377 => (if t377 < 0 then (some (-1)) else (laws_heldByteSS.l0 k x0 t377 (wrap64 (x5 + 1))))) else (none)) else (some x1)

def laws_heldByteSS.f (k : Nat) (l0 : List (List Int)) (a1 : Int) : Option (Int) := laws_heldByteSS.l0 k l0 a1 0

set_option maxHeartbeats 8000000 in
set_option maxRecDepth 100000 in
theorem laws_heldByteSS.calls (k : Nat) (A0 : Option Addr) (c0 : Nat) (l0 : List (List Int)) (a1 : Int) (r : Int) (w : World) (hr0 : Kd.C (Kd.slice 5 (Kd.int .u8)) w A0 l0.length l0) (hc0 : l0.length ≤ c0) (h : laws_heldByteSS.f k l0 a1 = some r) :
  Calls Try.prog 131 #[.slice A0 l0.length c0, .int .i64 a1] w fun e w' => e = .returned (.int .i64 r) ∧ Drawn0 w w' := by
 have HR0 := Aside0.mk hr0
 have HC0 := Aside0.mk hc0
 clear hr0 hc0
 have H : (laws_heldByteSS.l0 k l0 a1 0) = some r := h
 clear h
 have H' := Aside0.mk H
 clear H
 go_enter Try.func131, Try.ntmps131
 go_wp2
 go_loopg [1, 5] k (fun kq v1 v5 w' => ∃ (x1_1 : Int) (x5_1 : Int), v1 = .int .i64 x1_1 ∧ v5 = .int .i64 x5_1 ∧ Aside0 (laws_heldByteSS.l0 kq l0 x1_1 x5_1 = some r) ∧ Aside0 (kq ≤ k) ∧ Drawn0 w w')
 case atStart => exact ⟨(a1), (0), (by first | rfl | (simp; done) | (simp [*]; done)), (by first | rfl | (simp; done) | (simp [*]; done)), H', ⟨Nat.le_refl _⟩, by repeat (first | exact Drawn0.refl _ | apply Drawn0.step)⟩
 case round =>
  clear H'
  try clear c1
  try clear p2
  obtain ⟨x1_1, x5_1, rfl, rfl, HA, HK1, ⟨m1, rfl⟩⟩ := hrel
  cases gk with
  | zero => exact absurd HA.out (by simp [laws_heldByteSS.l0])
  | succ k1 =>
   have H := HA.out
   clear HA
   simp only [laws_heldByteSS.l0] at H
   by_cases c3 : x5_1 < (l0.length : Int)
   ·rw [if_pos c3] at H
    have c3b0 : decide (x5_1 < (l0.length : Int)) = true := decide_eq_true c3
    clear c3
    by_cases c4 : 0 ≤ x5_1
    ·rw [if_pos c4] at H
     have c4b0 : decide (0 ≤ x5_1) = true := decide_eq_true c4
     clear c4
     replace H := Option.bind_eq_some_iff.mp H
     obtain ⟨t377, A50, H⟩ := H
     replace H : (if t377 < 0 then (some (-1)) else (laws_heldByteSS.l0 k1 l0 t377 (wrap64 (x5_1 + 1)))) = some r := H
     have A5 := Aside0.mk A50
     clear A50
     by_cases c6 : t377 < 0
     ·rw [if_pos c6] at H
      have c6b0 : decide (t377 < 0) = true := decide_eq_true c6
      clear c6
      obtain rfl := Option.some.inj H
      have p376 : 0 ≤ (x5_1 : Int) := of_decide_eq_true as_
      have q376 : x5_1 < (l0.length : Int) := of_decide_eq_true as_
      obtain ⟨ad376, A376_0, c376_0, e376, hx376_0, hl376_0, hi376_0⟩ := at_L1 HR0.out x5_1 p376 q376
      cases e376
      have HR376_0 := Aside0.mk hi376_0
      have HC376_0 := Aside0.mk hl376_0
      clear hi376_0 hl376_0
      replace p376 := eq_true p376
      replace q376 := eq_true q376
      go_wp2_with (first | ((with_reducible refine gate_callee (f := 163) rfl ?_); refine goesL_ (some 17) rfl rfl Try.func163 (by kernel_rfl) rfl #[.slice A376_0 (rd_L1 l0 x5_1).length c376_0, .int .i64 x1_1] rfl ar_ ?_; (with_reducible refine (laws_heldByteS.calls k1 _ _ (rd_L1 l0 x5_1) x1_1 t377 _ ?side1 ?side2 A5.out).mono ?_); (case side1 => repeat (first | exact HR376_0.out | (with_reducible refine Kd.C_alloc ?_ _) | (with_reducible refine Kd.C_drewN ?_ _) | (with_reducible refine Kd.C_drew ?_))); (case side2 => exact HC376_0.out); rintro e w' ⟨rfl, ⟨nd, rfl⟩⟩; refine ⟨_, rfl, ?_⟩))
      go_ret
      exact ⟨by first | rfl | (simp; done) | (simp [*]; done), by repeat (first | exact Drawn0.refl _ | apply Drawn0.step)⟩
     ·rw [if_neg c6] at H
      have c6b0 : decide (t377 < 0) = false := decide_eq_false c6
      clear c6
      have H' := Aside0.mk H
      clear H
      have p376 : 0 ≤ (x5_1 : Int) := of_decide_eq_true as_
      have q376 : x5_1 < (l0.length : Int) := of_decide_eq_true as_
      obtain ⟨ad376, A376_0, c376_0, e376, hx376_0, hl376_0, hi376_0⟩ := at_L1 HR0.out x5_1 p376 q376
      cases e376
      have HR376_0 := Aside0.mk hi376_0
      have HC376_0 := Aside0.mk hl376_0
      clear hi376_0 hl376_0
      replace p376 := eq_true p376
      replace q376 := eq_true q376
      go_wp2_with (first | ((with_reducible refine gate_callee (f := 163) rfl ?_); refine goesL_ (some 17) rfl rfl Try.func163 (by kernel_rfl) rfl #[.slice A376_0 (rd_L1 l0 x5_1).length c376_0, .int .i64 x1_1] rfl ar_ ?_; (with_reducible refine (laws_heldByteS.calls k1 _ _ (rd_L1 l0 x5_1) x1_1 t377 _ ?side1 ?side2 A5.out).mono ?_); (case side1 => repeat (first | exact HR376_0.out | (with_reducible refine Kd.C_alloc ?_ _) | (with_reducible refine Kd.C_drewN ?_ _) | (with_reducible refine Kd.C_drew ?_))); (case side2 => exact HC376_0.out); rintro e w' ⟨rfl, ⟨nd, rfl⟩⟩; refine ⟨_, rfl, ?_⟩))
      go_roundg k1
      case measure => have := HK1.out; omega
      case rel => exact ⟨(t377), (wrap64 (x5_1 + 1)), (by first | rfl | (simp; done) | (simp [*]; done)), (by first | rfl | (simp; done) | (simp [*]; done)), H', ⟨by have := HK1.out; omega⟩, by repeat (first | exact Drawn0.refl _ | apply Drawn0.step)⟩
    ·rw [if_neg c4] at H
     exact absurd H (by simp)
   ·rw [if_neg c3] at H
    have c3b0 : decide (x5_1 < (l0.length : Int)) = false := decide_eq_false c3
    clear c3
    obtain rfl := Option.some.inj H
    go_wp2
    go_ret
    exact ⟨by first | rfl | (simp; done) | (simp [*]; done), by repeat (first | exact Drawn0.refl _ | apply Drawn0.step)⟩
end Go.Proofs.Ytmkcbbbknbahgaa.P
namespace Go.Proofs.Ytmkcbbbknbahgaa.P
open Go.RowKit Go.Proofs.YtmkcbbbknbahgaaW.PrintWords Go.Proofs.YtmkcbbbknbahgaaW.PrintLast Go.Proofs.YtmkcbbbknbahgaaW.PrintMore
attribute [local go_sem] max2_int min2_int max_two min_two max_three min_three max_four min_four   -- for this text's walks alone
set_option linter.unusedVariables false
set_option linter.unusedSimpArgs false

def laws_heldMemory.f (k : Nat) (l0_0 : List (List Int)) (a1 : Int) : Option (Int) := (laws_heldByteSS.f k l0_0 a1).bind fun t379 => (if t379 < 0 then (some (-1)) else (some t379))

set_option maxHeartbeats 8000000 in
set_option maxRecDepth 100000 in
theorem laws_heldMemory.calls (k : Nat) (A0_0 : Option Addr) (c0_0 : Nat) (l0_0 : List (List Int)) (a1 : Int) (r : Int) (w : World) (hr0_0 : Kd.C (Kd.slice 5 (Kd.int .u8)) w A0_0 l0_0.length l0_0) (hc0_0 : l0_0.length ≤ c0_0) (h : laws_heldMemory.f k l0_0 a1 = some r) :
  Calls Try.prog 65 #[.agg #[.slice A0_0 l0_0.length c0_0], .int .i64 a1] w fun e w' => e = .returned (.int .i64 r) ∧ Below w.heap.size w w' := by
 have hu31 := Try.underlying31
 have HR0_0 := Aside0.mk hr0_0
 have HC0_0 := Aside0.mk hc0_0
 clear hr0_0 hc0_0
 have HB := Aside0.mk (Below.refl w.heap.size w)
 have H : ((laws_heldByteSS.f k l0_0 a1).bind fun t379 => (if t379 < 0 then (some (-1)) else (some t379))) = some r := h
 clear h
 replace H := Option.bind_eq_some_iff.mp H
 obtain ⟨t379, A30, H⟩ := H
 replace H : (if t379 < 0 then (some (-1)) else (some t379)) = some r := H
 have A3 := Aside0.mk A30
 clear A30
 by_cases c4 : t379 < 0
 ·rw [if_pos c4] at H
  have c4b0 : decide (t379 < 0) = true := decide_eq_true c4
  clear c4
  obtain rfl := Option.some.inj H
  go_enter Try.func65, Try.ntmps65
  go_wp2_with (first | ((with_reducible refine gate_dst (N := 2) rfl ?_); refine box_event ?hg (N := 2) ?hd (cs := #[.slice A0_0 l0_0.length c0_0]) (t := 31) ?hr ?_; (case hd => rfl); (case hg => rfl); (case hr => exact gs_); intro gb378 hg w5 hbox hb; have BK378 := Aside0.mk (hbox); have GW378 := gE_ HB hg; have GE378 := gE_ HB hg; replace HB := Aside0.mk (below_step (by repeat (first | (with_reducible first | exact HB.out | apply ba_ | apply bn_ | apply bd_) | exact HB.out)) hb); clear hb hbox hg; have hcz6_0 : w5.cell? ⟨gb378, 0, none⟩ = some (.slice A0_0 l0_0.length c0_0) := (blk_cell BK378.out 0).trans rfl; have hfz6_0 := blk_frozen BK378.out 0) | ((with_reducible refine gate_callee (f := 131) rfl ?_); refine goesL_ (some 8) rfl rfl Try.func131 (by kernel_rfl) rfl #[.slice A0_0 l0_0.length c0_0, .int .i64 a1] rfl ar_ ?_; (with_reducible refine (laws_heldByteSS.calls k _ _ l0_0 a1 t379 _ ?side1 ?side2 A3.out).mono ?_); (case side1 => repeat (first | exact (Kd.C_below HR0_0.out HB.out) | (with_reducible refine Kd.C_alloc ?_ _) | (with_reducible refine Kd.C_drewN ?_ _) | (with_reducible refine Kd.C_drew ?_))); (case side2 => exact HC0_0.out); rintro e w' ⟨rfl, ⟨nd, rfl⟩⟩; refine ⟨_, rfl, ?_⟩))
  go_ret
  exact ⟨er_, by repeat (first | (with_reducible first | exact HB.out | apply below_alloc | apply pw_below_drewN | apply below_drew1 | refine below_set ?_ GE378.out) | exact HB.out)⟩
 ·rw [if_neg c4] at H
  have c4b0 : decide (t379 < 0) = false := decide_eq_false c4
  clear c4
  obtain rfl := Option.some.inj H
  go_enter Try.func65, Try.ntmps65
  go_wp2_with (first | ((with_reducible refine gate_dst (N := 2) rfl ?_); refine box_event ?hg (N := 2) ?hd (cs := #[.slice A0_0 l0_0.length c0_0]) (t := 31) ?hr ?_; (case hd => rfl); (case hg => rfl); (case hr => exact gs_); intro gb378 hg w7 hbox hb; have BK378 := Aside0.mk (hbox); have GW378 := gE_ HB hg; have GE378 := gE_ HB hg; replace HB := Aside0.mk (below_step (by repeat (first | (with_reducible first | exact HB.out | apply ba_ | apply bn_ | apply bd_) | exact HB.out)) hb); clear hb hbox hg; have hcz8_0 : w7.cell? ⟨gb378, 0, none⟩ = some (.slice A0_0 l0_0.length c0_0) := (blk_cell BK378.out 0).trans rfl; have hfz8_0 := blk_frozen BK378.out 0) | ((with_reducible refine gate_callee (f := 131) rfl ?_); refine goesL_ (some 8) rfl rfl Try.func131 (by kernel_rfl) rfl #[.slice A0_0 l0_0.length c0_0, .int .i64 a1] rfl ar_ ?_; (with_reducible refine (laws_heldByteSS.calls k _ _ l0_0 a1 t379 _ ?side1 ?side2 A3.out).mono ?_); (case side1 => repeat (first | exact (Kd.C_below HR0_0.out HB.out) | (with_reducible refine Kd.C_alloc ?_ _) | (with_reducible refine Kd.C_drewN ?_ _) | (with_reducible refine Kd.C_drew ?_))); (case side2 => exact HC0_0.out); rintro e w' ⟨rfl, ⟨nd, rfl⟩⟩; refine ⟨_, rfl, ?_⟩))
  go_ret
  exact ⟨er_, by repeat (first | (with_reducible first | exact HB.out | apply below_alloc | apply pw_below_drewN | apply below_drew1 | refine below_set ?_ GE378.out) | exact HB.out)⟩
end Go.Proofs.Ytmkcbbbknbahgaa.P
namespace Go.Proofs.Ytmkcbbbknbahgaa.P
open Go.RowKit Go.Proofs.YtmkcbbbknbahgaaW.PrintWords Go.Proofs.YtmkcbbbknbahgaaW.PrintLast Go.Proofs.YtmkcbbbknbahgaaW.PrintMore
attribute [local go_sem] max2_int min2_int max_two min_two max_three min_three max_four min_four   -- for this text's walks alone
set_option linter.unusedVariables false
set_option linter.unusedSimpArgs false

def laws_heldArena.f (k : Nat) (l0_0 : List (List Int)) (a0_1 : Int) (a0_2 : Int) (a0_3 : Int) (a0_4 : Int) (a0_5 : Int) (l0_6 : List Int) (a1 : Int) : Option (Int) := (laws_heldMemory.f k l0_0 a1).bind fun t836 => (if t836 < 0 then (some (-1)) else ((laws_heldIntS.f k l0_6 t836).bind fun t837 => (if t837 < 0 then (some (-1)) else (some t837))))

set_option maxHeartbeats 8000000 in
set_option maxRecDepth 100000 in
theorem laws_heldArena.calls (k : Nat) (A0_0 : Option Addr) (c0_0 : Nat) (l0_0 : List (List Int)) (a0_1 : Int) (a0_2 : Int) (a0_3 : Int) (a0_4 : Int) (a0_5 : Int) (A0_6 : Option Addr) (c0_6 : Nat) (l0_6 : List Int) (a1 : Int) (r : Int) (w : World) (hr0_0 : Kd.C (Kd.slice 5 (Kd.int .u8)) w A0_0 l0_0.length l0_0) (hc0_0 : l0_0.length ≤ c0_0) (hr0_6 : Kd.C (Kd.int .i64) w A0_6 l0_6.length l0_6) (hc0_6 : l0_6.length ≤ c0_6) (h : laws_heldArena.f k l0_0 a0_1 a0_2 a0_3 a0_4 a0_5 l0_6 a1 = some r) :
  Calls Try.prog 43 #[.agg #[.slice A0_0 l0_0.length c0_0, .int .i64 a0_1, .int .i64 a0_2, .int .i64 a0_3, .int .i64 a0_4, .int .i64 a0_5, .slice A0_6 l0_6.length c0_6], .int .i64 a1] w fun e w' => e = .returned (.int .i64 r) ∧ Below w.heap.size w w' := by
 have hu70 := Try.underlying70
 have hu31 := Try.underlying31
 have HR0_0 := Aside0.mk hr0_0
 have HC0_0 := Aside0.mk hc0_0
 clear hr0_0 hc0_0
 have HR0_6 := Aside0.mk hr0_6
 have HC0_6 := Aside0.mk hc0_6
 clear hr0_6 hc0_6
 have HB := Aside0.mk (Below.refl w.heap.size w)
 have H : ((laws_heldMemory.f k l0_0 a1).bind fun t836 => (if t836 < 0 then (some (-1)) else ((laws_heldIntS.f k l0_6 t836).bind fun t837 => (if t837 < 0 then (some (-1)) else (some t837))))) = some r := h
 clear h
 replace H := Option.bind_eq_some_iff.mp H
 obtain ⟨t836, A30, H⟩ := H
 replace H : (if t836 < 0 then (some (-1)) else ((laws_heldIntS.f k l0_6 t836).bind fun t837 => (if t837 < 0 then (some (-1)) else (some t837)))) = some r := H
 have A3 := Aside0.mk A30
 clear A30
 by_cases c4 : t836 < 0
 ·rw [if_pos c4] at H
  have c4b0 : decide (t836 < 0) = true := decide_eq_true c4
  clear c4
  obtain rfl := Option.some.inj H
  go_enter Try.func43, Try.ntmps43
  go_wp2_with (first | ((with_reducible refine gate_dst (N := 2) rfl ?_); refine box_event ?hg (N := 2) ?hd (cs := #[.slice A0_0 l0_0.length c0_0, .int .i64 a0_1, .int .i64 a0_2, .int .i64 a0_3, .int .i64 a0_4, .int .i64 a0_5, .slice A0_6 l0_6.length c0_6]) (t := 70) ?hr ?_; (case hd => rfl); (case hg => rfl); (case hr => exact gs_); intro gb835 hg w5 hbox hb; have BK835 := Aside0.mk (hbox); have GW835 := gE_ HB hg; have GE835 := gE_ HB hg; replace HB := Aside0.mk (below_step (by repeat (first | (with_reducible first | exact HB.out | apply ba_ | apply bn_ | apply bd_) | exact HB.out)) hb); clear hb hbox hg; have hcz6_0 : w5.cell? ⟨gb835, 0, none⟩ = some (.slice A0_0 l0_0.length c0_0) := (blk_cell BK835.out 0).trans rfl; have hcz6_1 : w5.cell? ⟨gb835, 1, none⟩ = some (.int .i64 a0_1) := (blk_cell BK835.out 1).trans rfl; have hcz6_2 : w5.cell? ⟨gb835, 2, none⟩ = some (.int .i64 a0_2) := (blk_cell BK835.out 2).trans rfl; have hcz6_3 : w5.cell? ⟨gb835, 3, none⟩ = some (.int .i64 a0_3) := (blk_cell BK835.out 3).trans rfl; have hcz6_4 : w5.cell? ⟨gb835, 4, none⟩ = some (.int .i64 a0_4) := (blk_cell BK835.out 4).trans rfl; have hcz6_5 : w5.cell? ⟨gb835, 5, none⟩ = some (.int .i64 a0_5) := (blk_cell BK835.out 5).trans rfl; have hcz6_6 : w5.cell? ⟨gb835, 6, none⟩ = some (.slice A0_6 l0_6.length c0_6) := (blk_cell BK835.out 6).trans rfl; have hfz6_0 := blk_frozen BK835.out 0; have hfz6_1 := blk_frozen BK835.out 1; have hfz6_2 := blk_frozen BK835.out 2; have hfz6_3 := blk_frozen BK835.out 3; have hfz6_4 := blk_frozen BK835.out 4; have hfz6_5 := blk_frozen BK835.out 5; have hfz6_6 := blk_frozen BK835.out 6) | ((with_reducible refine gate_callee (f := 65) rfl ?_); refine goesL_ (some 8) rfl rfl Try.func65 (by kernel_rfl) rfl #[.agg #[.slice A0_0 l0_0.length c0_0], .int .i64 a1] rfl ar_ ?_; (with_reducible refine (laws_heldMemory.calls k _ _ l0_0 a1 t836 _ ?side1 ?side2 A3.out).mono ?_); (case side1 => repeat (first | exact (Kd.C_below HR0_0.out HB.out) | (with_reducible refine Kd.C_alloc ?_ _) | (with_reducible refine Kd.C_drewN ?_ _) | (with_reducible refine Kd.C_drew ?_))); (case side2 => exact HC0_0.out); rintro e w7 ⟨rfl, hb⟩; refine ⟨_, rfl, ?_⟩; replace BK835 := bB_ BK835 hb; replace HB := Aside0.mk (below_step (by repeat (first | (with_reducible first | exact HB.out | apply ba_ | apply bn_ | apply bd_ | refine bset_ ?_ (by assumption)) | exact HB.out)) hb); (try clear hb); (try clear hb2); (try clear hk); (try clear hi)))
  go_ret
  exact ⟨er_, by repeat (first | (with_reducible first | exact HB.out | apply below_alloc | apply pw_below_drewN | apply below_drew1 | refine below_set ?_ GE835.out) | exact HB.out)⟩
 ·rw [if_neg c4] at H
  have c4b0 : decide (t836 < 0) = false := decide_eq_false c4
  clear c4
  replace H := Option.bind_eq_some_iff.mp H
  obtain ⟨t837, A80, H⟩ := H
  replace H : (if t837 < 0 then (some (-1)) else (some t837)) = some r := H
  have A8 := Aside0.mk A80
  clear A80
  by_cases c9 : t837 < 0
  ·rw [if_pos c9] at H
   have c9b0 : decide (t837 < 0) = true := decide_eq_true c9
   clear c9
   obtain rfl := Option.some.inj H
   go_enter Try.func43, Try.ntmps43
   go_wp2_with (first | ((with_reducible refine gate_dst (N := 2) rfl ?_); refine box_event ?hg (N := 2) ?hd (cs := #[.slice A0_0 l0_0.length c0_0, .int .i64 a0_1, .int .i64 a0_2, .int .i64 a0_3, .int .i64 a0_4, .int .i64 a0_5, .slice A0_6 l0_6.length c0_6]) (t := 70) ?hr ?_; (case hd => rfl); (case hg => rfl); (case hr => exact gs_); intro gb835 hg w10 hbox hb; have BK835 := Aside0.mk (hbox); have GW835 := gE_ HB hg; have GE835 := gE_ HB hg; replace HB := Aside0.mk (below_step (by repeat (first | (with_reducible first | exact HB.out | apply ba_ | apply bn_ | apply bd_) | exact HB.out)) hb); clear hb hbox hg; have hcz11_0 : w10.cell? ⟨gb835, 0, none⟩ = some (.slice A0_0 l0_0.length c0_0) := (blk_cell BK835.out 0).trans rfl; have hcz11_1 : w10.cell? ⟨gb835, 1, none⟩ = some (.int .i64 a0_1) := (blk_cell BK835.out 1).trans rfl; have hcz11_2 : w10.cell? ⟨gb835, 2, none⟩ = some (.int .i64 a0_2) := (blk_cell BK835.out 2).trans rfl; have hcz11_3 : w10.cell? ⟨gb835, 3, none⟩ = some (.int .i64 a0_3) := (blk_cell BK835.out 3).trans rfl; have hcz11_4 : w10.cell? ⟨gb835, 4, none⟩ = some (.int .i64 a0_4) := (blk_cell BK835.out 4).trans rfl; have hcz11_5 : w10.cell? ⟨gb835, 5, none⟩ = some (.int .i64 a0_5) := (blk_cell BK835.out 5).trans rfl; have hcz11_6 : w10.cell? ⟨gb835, 6, none⟩ = some (.slice A0_6 l0_6.length c0_6) := (blk_cell BK835.out 6).trans rfl; have hfz11_0 := blk_frozen BK835.out 0; have hfz11_1 := blk_frozen BK835.out 1; have hfz11_2 := blk_frozen BK835.out 2; have hfz11_3 := blk_frozen BK835.out 3; have hfz11_4 := blk_frozen BK835.out 4; have hfz11_5 := blk_frozen BK835.out 5; have hfz11_6 := blk_frozen BK835.out 6) | ((with_reducible refine gate_callee (f := 65) rfl ?_); refine goesL_ (some 8) rfl rfl Try.func65 (by kernel_rfl) rfl #[.agg #[.slice A0_0 l0_0.length c0_0], .int .i64 a1] rfl ar_ ?_; (with_reducible refine (laws_heldMemory.calls k _ _ l0_0 a1 t836 _ ?side1 ?side2 A3.out).mono ?_); (case side1 => repeat (first | exact (Kd.C_below HR0_0.out HB.out) | (with_reducible refine Kd.C_alloc ?_ _) | (with_reducible refine Kd.C_drewN ?_ _) | (with_reducible refine Kd.C_drew ?_))); (case side2 => exact HC0_0.out); rintro e w12 ⟨rfl, hb⟩; refine ⟨_, rfl, ?_⟩; replace BK835 := bB_ BK835 hb; replace HB := Aside0.mk (below_step (by repeat (first | (with_reducible first | exact HB.out | apply ba_ | apply bn_ | apply bd_ | refine bset_ ?_ (by assumption)) | exact HB.out)) hb); (try clear hb); (try clear hb2); (try clear hk); (try clear hi); have hcz13_0 : w12.cell? ⟨gb835, 0, none⟩ = some (.slice A0_0 l0_0.length c0_0) := (blk_cell BK835.out 0).trans rfl; have hcz13_1 : w12.cell? ⟨gb835, 1, none⟩ = some (.int .i64 a0_1) := (blk_cell BK835.out 1).trans rfl; have hcz13_2 : w12.cell? ⟨gb835, 2, none⟩ = some (.int .i64 a0_2) := (blk_cell BK835.out 2).trans rfl; have hcz13_3 : w12.cell? ⟨gb835, 3, none⟩ = some (.int .i64 a0_3) := (blk_cell BK835.out 3).trans rfl; have hcz13_4 : w12.cell? ⟨gb835, 4, none⟩ = some (.int .i64 a0_4) := (blk_cell BK835.out 4).trans rfl; have hcz13_5 : w12.cell? ⟨gb835, 5, none⟩ = some (.int .i64 a0_5) := (blk_cell BK835.out 5).trans rfl; have hcz13_6 : w12.cell? ⟨gb835, 6, none⟩ = some (.slice A0_6 l0_6.length c0_6) := (blk_cell BK835.out 6).trans rfl; have hfz13_0 := blk_frozen BK835.out 0; have hfz13_1 := blk_frozen BK835.out 1; have hfz13_2 := blk_frozen BK835.out 2; have hfz13_3 := blk_frozen BK835.out 3; have hfz13_4 := blk_frozen BK835.out 4; have hfz13_5 := blk_frozen BK835.out 5; have hfz13_6 := blk_frozen BK835.out 6) | ((with_reducible refine gate_callee (f := 105) rfl ?_); refine goesL_ (some 14) rfl rfl Try.func105 (by kernel_rfl) rfl #[.slice A0_6 l0_6.length c0_6, .int .i64 t836] rfl ar_ ?_; (with_reducible refine (laws_heldIntS.calls k _ _ l0_6 t836 t837 _ ?side1 ?side2 A8.out).mono ?_); (case side1 => repeat (first | exact (Kd.C_below HR0_6.out HB.out) | (with_reducible refine Kd.C_alloc ?_ _) | (with_reducible refine Kd.C_drewN ?_ _) | (with_reducible refine Kd.C_drew ?_))); (case side2 => exact HC0_6.out); rintro e w' ⟨rfl, ⟨nd, rfl⟩⟩; refine ⟨_, rfl, ?_⟩))
   go_ret
   exact ⟨er_, by repeat (first | (with_reducible first | exact HB.out | apply below_alloc | apply pw_below_drewN | apply below_drew1 | refine below_set ?_ GE835.out) | exact HB.out)⟩
  ·rw [if_neg c9] at H
   have c9b0 : decide (t837 < 0) = false := decide_eq_false c9
   clear c9
   obtain rfl := Option.some.inj H
   go_enter Try.func43, Try.ntmps43
   go_wp2_with (first | ((with_reducible refine gate_dst (N := 2) rfl ?_); refine box_event ?hg (N := 2) ?hd (cs := #[.slice A0_0 l0_0.length c0_0, .int .i64 a0_1, .int .i64 a0_2, .int .i64 a0_3, .int .i64 a0_4, .int .i64 a0_5, .slice A0_6 l0_6.length c0_6]) (t := 70) ?hr ?_; (case hd => rfl); (case hg => rfl); (case hr => exact gs_); intro gb835 hg w14 hbox hb; have BK835 := Aside0.mk (hbox); have GW835 := gE_ HB hg; have GE835 := gE_ HB hg; replace HB := Aside0.mk (below_step (by repeat (first | (with_reducible first | exact HB.out | apply ba_ | apply bn_ | apply bd_) | exact HB.out)) hb); clear hb hbox hg; have hcz15_0 : w14.cell? ⟨gb835, 0, none⟩ = some (.slice A0_0 l0_0.length c0_0) := (blk_cell BK835.out 0).trans rfl; have hcz15_1 : w14.cell? ⟨gb835, 1, none⟩ = some (.int .i64 a0_1) := (blk_cell BK835.out 1).trans rfl; have hcz15_2 : w14.cell? ⟨gb835, 2, none⟩ = some (.int .i64 a0_2) := (blk_cell BK835.out 2).trans rfl; have hcz15_3 : w14.cell? ⟨gb835, 3, none⟩ = some (.int .i64 a0_3) := (blk_cell BK835.out 3).trans rfl; have hcz15_4 : w14.cell? ⟨gb835, 4, none⟩ = some (.int .i64 a0_4) := (blk_cell BK835.out 4).trans rfl; have hcz15_5 : w14.cell? ⟨gb835, 5, none⟩ = some (.int .i64 a0_5) := (blk_cell BK835.out 5).trans rfl; have hcz15_6 : w14.cell? ⟨gb835, 6, none⟩ = some (.slice A0_6 l0_6.length c0_6) := (blk_cell BK835.out 6).trans rfl; have hfz15_0 := blk_frozen BK835.out 0; have hfz15_1 := blk_frozen BK835.out 1; have hfz15_2 := blk_frozen BK835.out 2; have hfz15_3 := blk_frozen BK835.out 3; have hfz15_4 := blk_frozen BK835.out 4; have hfz15_5 := blk_frozen BK835.out 5; have hfz15_6 := blk_frozen BK835.out 6) | ((with_reducible refine gate_callee (f := 65) rfl ?_); refine goesL_ (some 8) rfl rfl Try.func65 (by kernel_rfl) rfl #[.agg #[.slice A0_0 l0_0.length c0_0], .int .i64 a1] rfl ar_ ?_; (with_reducible refine (laws_heldMemory.calls k _ _ l0_0 a1 t836 _ ?side1 ?side2 A3.out).mono ?_); (case side1 => repeat (first | exact (Kd.C_below HR0_0.out HB.out) | (with_reducible refine Kd.C_alloc ?_ _) | (with_reducible refine Kd.C_drewN ?_ _) | (with_reducible refine Kd.C_drew ?_))); (case side2 => exact HC0_0.out); rintro e w16 ⟨rfl, hb⟩; refine ⟨_, rfl, ?_⟩; replace BK835 := bB_ BK835 hb; replace HB := Aside0.mk (below_step (by repeat (first | (with_reducible first | exact HB.out | apply ba_ | apply bn_ | apply bd_ | refine bset_ ?_ (by assumption)) | exact HB.out)) hb); (try clear hb); (try clear hb2); (try clear hk); (try clear hi); have hcz17_0 : w16.cell? ⟨gb835, 0, none⟩ = some (.slice A0_0 l0_0.length c0_0) := (blk_cell BK835.out 0).trans rfl; have hcz17_1 : w16.cell? ⟨gb835, 1, none⟩ = some (.int .i64 a0_1) := (blk_cell BK835.out 1).trans rfl; have hcz17_2 : w16.cell? ⟨gb835, 2, none⟩ = some (.int .i64 a0_2) := (blk_cell BK835.out 2).trans rfl; have hcz17_3 : w16.cell? ⟨gb835, 3, none⟩ = some (.int .i64 a0_3) := (blk_cell BK835.out 3).trans rfl; have hcz17_4 : w16.cell? ⟨gb835, 4, none⟩ = some (.int .i64 a0_4) := (blk_cell BK835.out 4).trans rfl; have hcz17_5 : w16.cell? ⟨gb835, 5, none⟩ = some (.int .i64 a0_5) := (blk_cell BK835.out 5).trans rfl; have hcz17_6 : w16.cell? ⟨gb835, 6, none⟩ = some (.slice A0_6 l0_6.length c0_6) := (blk_cell BK835.out 6).trans rfl; have hfz17_0 := blk_frozen BK835.out 0; have hfz17_1 := blk_frozen BK835.out 1; have hfz17_2 := blk_frozen BK835.out 2; have hfz17_3 := blk_frozen BK835.out 3; have hfz17_4 := blk_frozen BK835.out 4; have hfz17_5 := blk_frozen BK835.out 5; have hfz17_6 := blk_frozen BK835.out 6) | ((with_reducible refine gate_callee (f := 105) rfl ?_); refine goesL_ (some 14) rfl rfl Try.func105 (by kernel_rfl) rfl #[.slice A0_6 l0_6.length c0_6, .int .i64 t836] rfl ar_ ?_; (with_reducible refine (laws_heldIntS.calls k _ _ l0_6 t836 t837 _ ?side1 ?side2 A8.out).mono ?_); (case side1 => repeat (first | exact (Kd.C_below HR0_6.out HB.out) | (with_reducible refine Kd.C_alloc ?_ _) | (with_reducible refine Kd.C_drewN ?_ _) | (with_reducible refine Kd.C_drew ?_))); (case side2 => exact HC0_6.out); rintro e w' ⟨rfl, ⟨nd, rfl⟩⟩; refine ⟨_, rfl, ?_⟩))
   go_ret
   exact ⟨er_, by repeat (first | (with_reducible first | exact HB.out | apply below_alloc | apply pw_below_drewN | apply below_drew1 | refine below_set ?_ GE835.out) | exact HB.out)⟩
end Go.Proofs.Ytmkcbbbknbahgaa.P
namespace Go.Proofs.Ytmkcbbbknbahgaa.P
open Go.RowKit Go.Proofs.YtmkcbbbknbahgaaW.PrintWords Go.Proofs.YtmkcbbbknbahgaaW.PrintLast Go.Proofs.YtmkcbbbknbahgaaW.PrintMore
set_option linter.unusedVariables false
set_option linter.unusedSimpArgs false

theorem grown_set_ {w W : World} {g : Nat} (h : w.grownBy W (some g)) (j : Nat) (u : Value) : w.grownBy (W.setCell ⟨g, j, none⟩ u) (some g) :=
  ⟨h.os, h.tape, h.output, by have := h.size; simpa [World.setCell] using this, fun k hk hn => (Below.heap_setCell _ _ _ k (fun e => hn (congrArg some e))).trans (h.block k hk hn)⟩

theorem below_grown_ {w W W' : World} {g : Nat} (hb : Below w.heap.size w W) (h : W.grownBy W' (some g)) (hg : w.heap.size ≤ g) : Below w.heap.size w W' := hb.grown h (below_size hb) (fun k hk => by cases hk; exact hg)

theorem Blk_ne {w : World} {g g' t t' : Nat} {c c' : Array Value} (h : w.heap[g]? = some (.cells c t (0, 0))) (h' : w.heap[g']? = some (.cells c' t' (0, 0))) (hd : (t == t') = false) (e : g = g') : False := by
  subst e
  rw [h] at h'
  injection h' with h'
  injection h' with _ h'
  subst h'
  simp at hd

theorem Ty_not {w : World} {E : List Nat} {k T : Nat} {cs : Array Value} (h : Ty w E k) (hb : w.heap[k]? = some (.cells cs T (0, 0))) (hd : E.contains T = false) : False := by
  obtain ⟨q, hq, c, hc⟩ := h
  rw [hb] at hc
  injection hc with hc
  injection hc with _ hc
  subst hc
  rw [List.contains_iff_mem.2 hq] at hd
  cases hd

def FnExactGive.T5 : Bool × List (List Nat × List Nat) := (true, [([], []), ([0], [0]), ([], []), ([2, 1], [2]), ([1, 3, 3], [1, 3]), ([4], [4]), ([5], [5]), ([5], [5]), ([5], [5]), ([], []), ([], []), ([9, 6, 4, 0, 1, 2, 3, 4, 5, 6, 9, 10], [6, 9]), ([10, 7, 11, 0, 1, 2, 3, 4, 5, 6, 7, 9, 10, 11], [7, 10]), ([8, 12, 0, 1, 2, 3, 4, 5, 6, 7, 8, 9, 10, 11, 12], [8])])

def FnExactGive.B5 : List Nat := [0, 1, 0, 7, 15, 31, 63, 63, 63, 0, 0, 1663, 3839, 8191]

theorem FnExactGive.tab5 : rtab .any (opsOf Try.f6 5) = FnExactGive.T5 := by kernel_rfl

theorem FnExactGive.bits5 : waitsOk FnExactGive.T5.2 FnExactGive.B5 = true := by kernel_rfl

def FnExactGive.T7 : Bool × List (List Nat × List Nat) := (true, [([], []), ([], []), ([1], [1]), ([0, 2, 2], [0, 2]), ([3], [3]), ([4], [4]), ([4], [4]), ([4], [4]), ([], []), ([], []), ([8, 5, 3, 0, 1, 2, 3, 4, 5, 8, 9], [5, 8]), ([9, 6, 10, 0, 1, 2, 3, 4, 5, 6, 8, 9, 10], [6, 9]), ([7, 11, 0, 1, 2, 3, 4, 5, 6, 7, 8, 9, 10, 11], [7])])

def FnExactGive.B7 : List Nat := [0, 0, 2, 7, 15, 31, 31, 31, 0, 0, 831, 1919, 4095]

theorem FnExactGive.tab7 : rtab .any (opsOf Try.f6 7) = FnExactGive.T7 := by kernel_rfl

theorem FnExactGive.bits7 : waitsOk FnExactGive.T7.2 FnExactGive.B7 = true := by kernel_rfl

def FnExactGive.T24 : Bool × List (List Nat × List Nat) := (true, [([], []), ([0], [0]), ([], []), ([2, 1], [2]), ([1, 3, 3], [1, 3]), ([4], [4]), ([5], [5]), ([5], [5]), ([5], [5]), ([], []), ([], []), ([9, 6, 4, 0, 1, 2, 3, 4, 5, 6, 9, 10], [6, 9]), ([10, 7, 11, 0, 1, 2, 3, 4, 5, 6, 7, 9, 10, 11], [7, 10]), ([8, 12, 0, 1, 2, 3, 4, 5, 6, 7, 8, 9, 10, 11, 12], [8])])

def FnExactGive.B24 : List Nat := [0, 1, 0, 7, 15, 31, 63, 63, 63, 0, 0, 1663, 3839, 8191]

theorem FnExactGive.tab24 : rtab .any (opsOf Try.f6 24) = FnExactGive.T24 := by kernel_rfl

theorem FnExactGive.bits24 : waitsOk FnExactGive.T24.2 FnExactGive.B24 = true := by kernel_rfl

set_option maxHeartbeats 8000000 in
set_option maxRecDepth 100000 in
theorem FnExactGive.walk (k : Nat) (A0_0 : Option Addr) (c0_0 : Nat) (l0_0 : List (List Int)) (a0_1 : Int) (a0_2 : Int) (a0_3 : Int) (a0_4 : Int) (a0_5 : Int) (A0_6 : Option Addr) (c0_6 : Nat) (l0_6 : List Int) (a1_0 : Int) (a1_1 : Int) (r8 : Int) (r14 : List (List Int)) (r15 : Int) (r16 : Int) (r17 : Int) (r18 : Int) (r19 : Int) (r20 : List Int) (r24 : Int) (r25 : Int) (r27 : List (List Int)) (r28 : Int) (r29 : Int) (r30 : Int) (r31 : Int) (r32 : Int) (r33 : List Int) (r34 : Int) (r35 : Int) (r36 : Int) (r37 : Int) (r38 : Bool) (m149 : Int) (x150 : List (List Int)) (x151 : List Int) (m199 : Int) (x200 : List (List Int)) (x201 : List Int) (w : World) (HR0_0 : Kd.C (Kd.slice 5 (Kd.int .u8)) w A0_0 l0_0.length l0_0) (HC0_0 : l0_0.length ≤ c0_0) (HR0_6 : Kd.C (Kd.int .i64) w A0_6 l0_6.length l0_6) (HC0_6 : l0_6.length ≤ c0_6) (e9 : laws_szArena.f k l0_0 a0_1 a0_2 a0_3 a0_4 a0_5 l0_6 1048576 = some r8) (n_r8 : ¬ r8 < 0) (e21 : laws_toArena.f k l0_0 a0_1 a0_2 a0_3 a0_4 a0_5 l0_6 = some (r14, r15, r16, r17, r18, r19, r20)) (e26 : laws_toAsked.f a1_0 a1_1 = some (r24, r25)) (e39 : spec_Give.f k r14 r15 r16 r17 r18 r19 r20 r24 r25 = some (r27, r28, r29, r30, r31, r32, r33, r34, r35, r36, r37, r38)) (e78 : impl_Give.f k r14 r15 r16 r17 r18 r19 r20 r24 r25 = some (r27, r28, r29, r30, r31, r32, r33, r34, r35, r36, r37, r38)) (e112 : laws_eqArena.f k r27 r28 r29 r30 r31 r32 r33 r27 r28 r29 r30 r31 r32 r33 = some true) (e125 : laws_eqWindow.f r34 r35 r36 r37 r34 r35 r36 r37 = some true) (e138 : laws_eqArena.f k r14 r15 r16 r17 r18 r19 r20 r14 r15 r16 r17 r18 r19 r20 = some true) (e152 : laws_markArena.f k r14 r20 1 = some (m149, x150, x151)) (n_m149 : ¬ m149 < 0) (e202 : laws_markArena.f k r27 r33 1 = some (m199, x200, x201)) (e217 : laws_heldArena.f k x200 r28 r29 r30 r31 r32 x201 1 = some m199) (n_m199 : ¬ m199 < 0) :
    Calls Try.prog 6 #[.agg #[.slice A0_0 l0_0.length c0_0, .int .i64 a0_1, .int .i64 a0_2, .int .i64 a0_3, .int .i64 a0_4, .int .i64 a0_5, .slice A0_6 l0_6.length c0_6], .agg #[.int .i64 a1_0, .int .i64 a1_1]] w fun e w' => e = .returned (.bool true) ∧ Below w.heap.size w w' := by
  have hu32 := Try.underlying32
  have hu65 := Try.underlying65
  have hu67 := Try.underlying67
  have hu70 := Try.underlying70
  replace HR0_0 := Aside0.mk HR0_0
  replace HC0_0 := Aside0.mk HC0_0
  replace HR0_6 := Aside0.mk HR0_6
  replace HC0_6 := Aside0.mk HC0_6
  replace e9 := Aside0.mk e9
  replace n_r8 := decide_eq_false n_r8
  replace e21 := Aside0.mk e21
  replace e26 := Aside0.mk e26
  replace e39 := Aside0.mk e39
  replace e78 := Aside0.mk e78
  replace e112 := Aside0.mk e112
  replace e125 := Aside0.mk e125
  replace e138 := Aside0.mk e138
  replace e152 := Aside0.mk e152
  replace n_m149 := decide_eq_false n_m149
  replace e202 := Aside0.mk e202
  replace e217 := Aside0.mk e217
  replace n_m199 := decide_eq_false n_m199
  have HB := Aside0.mk (Below.refl w.heap.size w)
  go_enter Try.func6, Try.ntmps6
  go_wp2_with fail
  have HA3 := Below.alloc (Below.refl w.heap.size w) (Nat.le_refl _) (.cells #[.slice A0_0 l0_0.length c0_0, .int .i64 a0_1, .int .i64 a0_2, .int .i64 a0_3, .int .i64 a0_4, .int .i64 a0_5, .slice A0_6 l0_6.length c0_6] 65)
  have BK1 := Aside0.mk (heap_alloc_new w (.cells #[.slice A0_0 l0_0.length c0_0, .int .i64 a0_1, .int .i64 a0_2, .int .i64 a0_3, .int .i64 a0_4, .int .i64 a0_5, .slice A0_6 l0_6.length c0_6] 65))
  replace HB := Aside0.mk (below_step HB.out HA3)
  have Z4 := Aside0.mk (show w.heap.size < (w.alloc (.cells #[.slice A0_0 l0_0.length c0_0, .int .i64 a0_1, .int .i64 a0_2, .int .i64 a0_3, .int .i64 a0_4, .int .i64 a0_5, .slice A0_6 l0_6.length c0_6] 65)).heap.size by simp)
  clear HA3
  have HA5 := Below.alloc (Below.refl (w.alloc (.cells #[.slice A0_0 l0_0.length c0_0, .int .i64 a0_1, .int .i64 a0_2, .int .i64 a0_3, .int .i64 a0_4, .int .i64 a0_5, .slice A0_6 l0_6.length c0_6] 65)).heap.size (w.alloc (.cells #[.slice A0_0 l0_0.length c0_0, .int .i64 a0_1, .int .i64 a0_2, .int .i64 a0_3, .int .i64 a0_4, .int .i64 a0_5, .slice A0_6 l0_6.length c0_6] 65))) (Nat.le_refl _) (.cells #[.int .i64 a1_0, .int .i64 a1_1] 67)
  replace BK1 := Aside0.mk (blk_below BK1.out HA5)
  have BK2 := Aside0.mk (heap_alloc_new (w.alloc (.cells #[.slice A0_0 l0_0.length c0_0, .int .i64 a0_1, .int .i64 a0_2, .int .i64 a0_3, .int .i64 a0_4, .int .i64 a0_5, .slice A0_6 l0_6.length c0_6] 65)) (.cells #[.int .i64 a1_0, .int .i64 a1_1] 67))
  replace HB := Aside0.mk (below_step HB.out HA5)
  have Z6 := Aside0.mk (show (w.alloc (.cells #[.slice A0_0 l0_0.length c0_0, .int .i64 a0_1, .int .i64 a0_2, .int .i64 a0_3, .int .i64 a0_4, .int .i64 a0_5, .slice A0_6 l0_6.length c0_6] 65)).heap.size < ((w.alloc (.cells #[.slice A0_0 l0_0.length c0_0, .int .i64 a0_1, .int .i64 a0_2, .int .i64 a0_3, .int .i64 a0_4, .int .i64 a0_5, .slice A0_6 l0_6.length c0_6] 65)).alloc (.cells #[.int .i64 a1_0, .int .i64 a1_1] 67)).heap.size by simp)
  clear HA5
  refine (laws_szArena.calls k A0_0 c0_0 l0_0 a0_1 a0_2 a0_3 a0_4 a0_5 A0_6 c0_6 l0_6 1048576 r8 ((w.alloc (.cells #[.slice A0_0 l0_0.length c0_0, .int .i64 a0_1, .int .i64 a0_2, .int .i64 a0_3, .int .i64 a0_4, .int .i64 a0_5, .slice A0_6 l0_6.length c0_6] 65)).alloc (.cells #[.int .i64 a1_0, .int .i64 a1_1] 67)) (Kd.C_below HR0_0.out HB.out) HC0_0.out (Kd.C_below HR0_6.out HB.out) HC0_6.out e9.out).mono ?_
  rintro e w7 ⟨rfl, hb⟩
  replace BK1 := Aside0.mk (blk_below BK1.out hb)
  replace BK2 := Aside0.mk (blk_below BK2.out hb)
  have Z10 := Aside0.mk (below_size hb)
  replace HB := Aside0.mk (below_step HB.out hb)
  clear hb 
  go_wp2_with fail
  refine start_ (n := 14) (S := fun w' => True) (ds := []) #[false, false, false, false, false, false, false, false, false, false, false, false, false, false] (by kernel_rfl) rfl rfl trivial (fun hHeld => ?_)
  refine with_tabW FnExactGive.tab5 FnExactGive.bits5 (fun HT_ HW_ => ?_)
  replace BK1 := Aside0.mk (blk_drew BK1.out)
  replace BK2 := Aside0.mk (blk_drew BK2.out)
  replace HB := Aside0.mk (below_drew1 HB.out)
  have Z12 := Aside0.mk (show w7.heap.size ≤ w7.drew.heap.size from Nat.le_refl _)
  generalize w7.drew = w11 at BK1 BK2 HB Z12 hHeld ⊢
  clear hHeld
  have HD13 := Aside0.mk (Below.refl w11.heap.size w11)
  replace BK2 := Aside0.mk (show w11.heap[w.heap.size + 1]? = some (.cells #[.int .i64 a1_0, .int .i64 a1_1] 67 (0, 0)) from by have h_ := BK2.out; rwa [show (w.alloc (.cells #[.slice A0_0 l0_0.length c0_0, .int .i64 a0_1, .int .i64 a0_2, .int .i64 a0_3, .int .i64 a0_4, .int .i64 a0_5, .slice A0_6 l0_6.length c0_6] 65)).heap.size = w.heap.size + 1 by simp] at h_)
  refine inv_at [0, 1, 2, 3, 4, 5, 6, 7, 8, 9, 10, 11, 12, 13] (fun a0_ b a w' => ∃ (A5r1_0_ : Option Addr) (c5r1_0_ : Nat) (A5r1_6_ : Option Addr) (c5r1_6_ : Nat) (A5r4_0_ : Option Addr) (c5r4_0_ : Nat) (A5r4_6_ : Option Addr) (c5r4_6_ : Nat) (g5r9_ : Nat) (g5r10_ : Nat) (m1_ : Value) (m4_ : Value) (m5_ : Value) (m6_ : Value) (m9_ : Value) (m10_ : Value), a = putSel a0_ b [(0, 25, .agg #[.slice A0_0 l0_0.length c0_0, .int .i64 a0_1, .int .i64 a0_2, .int .i64 a0_3, .int .i64 a0_4, .int .i64 a0_5, .slice A0_6 l0_6.length c0_6]), (1, 26, m1_), (2, 27, .agg #[.int .i64 a1_0, .int .i64 a1_1]), (3, 28, .agg #[.int .i64 r24, .int .i64 r25]), (4, 29, m4_), (5, 24, m5_), (6, 30, m6_), (7, 31, .agg #[.int .i64 r34, .int .i64 r35, .int .i64 r36, .int .i64 r37]), (8, 32, .bool r38), (9, 6, m9_), (10, 7, m10_), (13, 8, .bool r38)] ∧ (Below w11.heap.size w11 w') ∧ (b 1 = true → b 4 = false → Kd.S (Kd.slice 5 (Kd.int .u8)) 29 w' w11.heap.size (fun _ => True) (.slice A5r1_0_ r14.length c5r1_0_) r14) ∧ (b 1 = true → b 4 = false → Kd.R (Kd.int .i64) 3 w' w11.heap.size (fun _ => True) (.slice A5r1_6_ r20.length c5r1_6_) r20) ∧ (b 4 = true → Kd.S (Kd.slice 5 (Kd.int .u8)) 29 w' w11.heap.size (fun _ => True) (.slice A5r4_0_ r27.length c5r4_0_) r27) ∧ (b 4 = true → Kd.R (Kd.int .i64) 3 w' w11.heap.size (fun _ => True) (.slice A5r4_6_ r33.length c5r4_6_) r33) ∧ (b 9 = true → b 11 = false → w'.heap[g5r9_]? = some (.cells #[.slice none 0 0, .int .i64 0, .int .i64 0, .int .i64 0, .int .i64 0, .int .i64 0, .slice none 0 0] 70 (0, 0))) ∧ (b 9 = true → w11.heap.size ≤ g5r9_) ∧ (b 10 = true → b 12 = false → w'.heap[g5r10_]? = some (.cells #[.int .i64 0, .int .i64 0, .int .i64 0, .int .i64 0] 32 (0, 0))) ∧ (b 10 = true → w11.heap.size ≤ g5r10_) ∧ (b 9 = true → b 11 = true → w'.heap[g5r9_]? = some (.cells #[.slice A5r4_0_ r27.length c5r4_0_, .int .i64 r28, .int .i64 r29, .int .i64 r30, .int .i64 r31, .int .i64 r32, .slice A5r4_6_ r33.length c5r4_6_] 70 (0, 0))) ∧ (b 10 = true → b 12 = true → w'.heap[g5r10_]? = some (.cells #[.int .i64 r34, .int .i64 r35, .int .i64 r36, .int .i64 r37] 32 (0, 0))) ∧ (b 1 = true → (m1_ : Value) = .agg #[.slice A5r1_0_ r14.length c5r1_0_, .int .i64 r15, .int .i64 r16, .int .i64 r17, .int .i64 r18, .int .i64 r19, .slice A5r1_6_ r20.length c5r1_6_]) ∧ (b 4 = true → (m4_ : Value) = .tuple #[.agg #[.slice A5r4_0_ r27.length c5r4_0_, .int .i64 r28, .int .i64 r29, .int .i64 r30, .int .i64 r31, .int .i64 r32, .slice A5r4_6_ r33.length c5r4_6_], .agg #[.int .i64 r34, .int .i64 r35, .int .i64 r36, .int .i64 r37], .bool r38]) ∧ (b 5 = true → (m5_ : Value) = .tuple #[.agg #[.slice A5r4_0_ r27.length c5r4_0_, .int .i64 r28, .int .i64 r29, .int .i64 r30, .int .i64 r31, .int .i64 r32, .slice A5r4_6_ r33.length c5r4_6_], .agg #[.int .i64 r34, .int .i64 r35, .int .i64 r36, .int .i64 r37], .bool r38]) ∧ (b 6 = true → (m6_ : Value) = .agg #[.slice A5r4_0_ r27.length c5r4_0_, .int .i64 r28, .int .i64 r29, .int .i64 r30, .int .i64 r31, .int .i64 r32, .slice A5r4_6_ r33.length c5r4_6_]) ∧ (b 9 = true → (m9_ : Value) = .pointer (some ⟨g5r9_, 0, none⟩)) ∧ (b 10 = true → (m10_ : Value) = .pointer (some ⟨g5r10_, 0, none⟩))) HT_.out HW_.out (by kernel_rfl) (by kernel_rfl) ?_ ?_ ?_
  · exact ⟨none, 0, none, 0, none, 0, none, 0, 0, 0, .bool false, .bool false, .bool false, .bool false, .bool false, .bool false, by simp only [putSel, Bool.false_eq_true, if_false], HD13.out, fun h_ => absurd h_ (by decide), fun h_ => absurd h_ (by decide), fun h_ => absurd h_ (by decide), fun h_ => absurd h_ (by decide), fun h_ => absurd h_ (by decide), fun h_ => absurd h_ (by decide), fun h_ => absurd h_ (by decide), fun h_ => absurd h_ (by decide), fun h_ => absurd h_ (by decide), fun h_ => absurd h_ (by decide), fun h_ => absurd h_ (by decide), fun h_ => absurd h_ (by decide), fun h_ => absurd h_ (by decide), fun h_ => absurd h_ (by decide), fun h_ => absurd h_ (by decide), fun h_ => absurd h_ (by decide)⟩
  · skip
    clear HD13
    refine steps_cons ?_ ?_
    · rintro b a w' ⟨A5r1_0_, c5r1_0_, A5r1_6_, c5r1_6_, A5r4_0_, c5r4_0_, A5r4_6_, c5r4_6_, g5r9_, g5r10_, m1_, m4_, m5_, m6_, m9_, m10_, ha, Q_HD13, Q_O22, Q_O23, Q_O40, Q_O41, Q_BZ42, Q_Z44, Q_BZ45, Q_Z47, Q_BK43, Q_BK46, Q_X1_, Q_X4_, Q_X5_, Q_X6_, Q_X9_, Q_X10_⟩ hb_ hon hoff
      refine ⟨_, rfl, fun K hK => ?_⟩
      have e2 : a.tmps[2]? = some (.pointer (some ⟨w.heap.size, 0, none⟩)) := by rw [ha]; exact (putSel_off rfl).trans rfl
      replace ha := Aside0.mk ha
      have HD13 := Aside0.mk Q_HD13
      have hc0_ : w'.cell? ⟨w.heap.size, 0, none⟩ = some (.slice A0_0 l0_0.length c0_0) := (blk_cell (blk_below BK1.out HD13.out) 0).trans rfl
      have hc1_ : w'.cell? ⟨w.heap.size, 1, none⟩ = some (.int .i64 a0_1) := (blk_cell (blk_below BK1.out HD13.out) 1).trans rfl
      have hc2_ : w'.cell? ⟨w.heap.size, 2, none⟩ = some (.int .i64 a0_2) := (blk_cell (blk_below BK1.out HD13.out) 2).trans rfl
      have hc3_ : w'.cell? ⟨w.heap.size, 3, none⟩ = some (.int .i64 a0_3) := (blk_cell (blk_below BK1.out HD13.out) 3).trans rfl
      have hc4_ : w'.cell? ⟨w.heap.size, 4, none⟩ = some (.int .i64 a0_4) := (blk_cell (blk_below BK1.out HD13.out) 4).trans rfl
      have hc5_ : w'.cell? ⟨w.heap.size, 5, none⟩ = some (.int .i64 a0_5) := (blk_cell (blk_below BK1.out HD13.out) 5).trans rfl
      have hc6_ : w'.cell? ⟨w.heap.size, 6, none⟩ = some (.slice A0_6 l0_6.length c0_6) := (blk_cell (blk_below BK1.out HD13.out) 6).trans rfl
      refine value_ (w1 := w') (v := .agg #[.slice A0_0 l0_0.length c0_0, .int .i64 a0_1, .int .i64 a0_2, .int .i64 a0_3, .int .i64 a0_4, .int .i64 a0_5, .slice A0_6 l0_6.length c0_6]) (by rfl) rfl ?_ ?_
      · go_simp
        (try simp only [i64_w])
        try rfl
      refine hK.out _ _ ⟨A5r1_0_, c5r1_0_, A5r1_6_, c5r1_6_, A5r4_0_, c5r4_0_, A5r4_6_, c5r4_6_, g5r9_, g5r10_, m1_, m4_, m5_, m6_, m9_, m10_, (by rw [ha.out]; exact putSel_upk 0 hb_ rfl rfl rfl), Q_HD13, fun h0_ _ => absurd ((hoff 1 (by kernel_rfl)).symm.trans h0_) (by decide), fun h0_ _ => absurd ((hoff 1 (by kernel_rfl)).symm.trans h0_) (by decide), fun h0_ => absurd ((hoff 4 (by kernel_rfl)).symm.trans h0_) (by decide), fun h0_ => absurd ((hoff 4 (by kernel_rfl)).symm.trans h0_) (by decide), Q_BZ42, Q_Z44, Q_BZ45, Q_Z47, fun _ h1_ => absurd ((hoff 11 (by kernel_rfl)).symm.trans h1_) (by decide), fun _ h1_ => absurd ((hoff 12 (by kernel_rfl)).symm.trans h1_) (by decide), fun h0_ => absurd ((hoff 1 (by kernel_rfl)).symm.trans h0_) (by decide), fun h0_ => absurd ((hoff 4 (by kernel_rfl)).symm.trans h0_) (by decide), fun h0_ => absurd ((hoff 5 (by kernel_rfl)).symm.trans h0_) (by decide), fun h0_ => absurd ((hoff 6 (by kernel_rfl)).symm.trans h0_) (by decide), Q_X9_, Q_X10_⟩
    refine steps_cons ?_ ?_
    · rintro b a w' ⟨A5r1_0_, c5r1_0_, A5r1_6_, c5r1_6_, A5r4_0_, c5r4_0_, A5r4_6_, c5r4_6_, g5r9_, g5r10_, m1_, m4_, m5_, m6_, m9_, m10_, ha, Q_HD13, Q_O22, Q_O23, Q_O40, Q_O41, Q_BZ42, Q_Z44, Q_BZ45, Q_Z47, Q_BK43, Q_BK46, Q_X1_, Q_X4_, Q_X5_, Q_X6_, Q_X9_, Q_X10_⟩ hb_ hon hoff
      refine ⟨_, rfl, fun K hK => ?_⟩
      have e25 : a.tmps[25]? = some (.agg #[.slice A0_0 l0_0.length c0_0, .int .i64 a0_1, .int .i64 a0_2, .int .i64 a0_3, .int .i64 a0_4, .int .i64 a0_5, .slice A0_6 l0_6.length c0_6]) := by rw [ha]; exact putSel_on (e := (0, 25, .agg #[.slice A0_0 l0_0.length c0_0, .int .i64 a0_1, .int .i64 a0_2, .int .i64 a0_3, .int .i64 a0_4, .int .i64 a0_5, .slice A0_6 l0_6.length c0_6])) 0 rfl rfl (hon 0 (by kernel_rfl)) rfl
      replace ha := Aside0.mk ha
      have HD13 := Aside0.mk Q_HD13
      refine goes_ Try.func37 (by kernel_rfl) rfl #[.agg #[.slice A0_0 l0_0.length c0_0, .int .i64 a0_1, .int .i64 a0_2, .int .i64 a0_3, .int .i64 a0_4, .int .i64 a0_5, .slice A0_6 l0_6.length c0_6]] (by rfl) rfl rfl (by first | (simp only [List.map_toArray, List.map_cons, List.map_nil, Act.eval, Array.getD_eq_getD_getElem?, Option.getD_some, e25]; done) | (simp only [List.map_toArray, List.map_cons, List.map_nil, Act.eval, Array.getD_eq_getD_getElem?, Option.getD_some, e25]; rfl)) ?_
      with_reducible refine (laws_toArena.calls k A0_0 c0_0 l0_0 a0_1 a0_2 a0_3 a0_4 a0_5 A0_6 c0_6 l0_6 r14 r15 r16 r17 r18 r19 r20 w' (Kd.C_below (Kd.C_below HR0_0.out HB.out) HD13.out) HC0_0.out (Kd.C_below (Kd.C_below HR0_6.out HB.out) HD13.out) HC0_6.out e21.out).mono ?_
      rintro e wn1_ ⟨v1_0, v1_6, rfl, h1_0, h1_6, hb⟩
      refine ⟨_, rfl, ?_⟩
      obtain ⟨A5r1_0_n, c5r1_0_n, rfl⟩ := Kd.S_slice h1_0
      obtain ⟨A5r1_6_n, c5r1_6_n, rfl⟩ := Kd.R_slice h1_6
      refine hK.out _ _ ⟨A5r1_0_n, c5r1_0_n, A5r1_6_n, c5r1_6_n, A5r4_0_, c5r4_0_, A5r4_6_, c5r4_6_, g5r9_, g5r10_, (.agg #[.slice A5r1_0_n r14.length c5r1_0_n, .int .i64 r15, .int .i64 r16, .int .i64 r17, .int .i64 r18, .int .i64 r19, .slice A5r1_6_n r20.length c5r1_6_n]), m4_, m5_, m6_, m9_, m10_, (by rw [ha.out]; exact putSel_upk 1 hb_ rfl rfl rfl), below_step HD13.out hb, fun _ _ => Kd.S_lower (Kd.S_mono (Kd.S_bound h1_0) (fun k_ hk => trivial)) (below_size HD13.out), fun _ _ => Kd.R_lower (Kd.R_mono (Kd.R_bound h1_6) (fun k_ hk => trivial)) (below_size HD13.out), fun h0_ => absurd ((hoff 4 (by kernel_rfl)).symm.trans h0_) (by decide), fun h0_ => absurd ((hoff 4 (by kernel_rfl)).symm.trans h0_) (by decide), fun h0_ h1_ => blk_below (Q_BZ42 h0_ h1_) hb, Q_Z44, fun h0_ h1_ => blk_below (Q_BZ45 h0_ h1_) hb, Q_Z47, fun _ h1_ => absurd ((hoff 11 (by kernel_rfl)).symm.trans h1_) (by decide), fun _ h1_ => absurd ((hoff 12 (by kernel_rfl)).symm.trans h1_) (by decide), fun _ => rfl, fun h0_ => absurd ((hoff 4 (by kernel_rfl)).symm.trans h0_) (by decide), fun h0_ => absurd ((hoff 5 (by kernel_rfl)).symm.trans h0_) (by decide), fun h0_ => absurd ((hoff 6 (by kernel_rfl)).symm.trans h0_) (by decide), Q_X9_, Q_X10_⟩
    refine steps_cons ?_ ?_
    · rintro b a w' ⟨A5r1_0_, c5r1_0_, A5r1_6_, c5r1_6_, A5r4_0_, c5r4_0_, A5r4_6_, c5r4_6_, g5r9_, g5r10_, m1_, m4_, m5_, m6_, m9_, m10_, ha, Q_HD13, Q_O22, Q_O23, Q_O40, Q_O41, Q_BZ42, Q_Z44, Q_BZ45, Q_Z47, Q_BK43, Q_BK46, Q_X1_, Q_X4_, Q_X5_, Q_X6_, Q_X9_, Q_X10_⟩ hb_ hon hoff
      refine ⟨_, rfl, fun K hK => ?_⟩
      have e3 : a.tmps[3]? = some (.pointer (some ⟨w.heap.size + 1, 0, none⟩)) := by rw [ha]; exact (putSel_off rfl).trans rfl
      replace ha := Aside0.mk ha
      have HD13 := Aside0.mk Q_HD13
      have hc0_ : w'.cell? ⟨w.heap.size + 1, 0, none⟩ = some (.int .i64 a1_0) := (blk_cell (blk_below BK2.out HD13.out) 0).trans rfl
      have hc1_ : w'.cell? ⟨w.heap.size + 1, 1, none⟩ = some (.int .i64 a1_1) := (blk_cell (blk_below BK2.out HD13.out) 1).trans rfl
      refine value_ (w1 := w') (v := .agg #[.int .i64 a1_0, .int .i64 a1_1]) (by rfl) rfl ?_ ?_
      · go_simp
        (try simp only [i64_w])
        try rfl
      refine hK.out _ _ ⟨A5r1_0_, c5r1_0_, A5r1_6_, c5r1_6_, A5r4_0_, c5r4_0_, A5r4_6_, c5r4_6_, g5r9_, g5r10_, m1_, m4_, m5_, m6_, m9_, m10_, (by rw [ha.out]; exact putSel_upk 2 hb_ rfl rfl rfl), Q_HD13, Q_O22, Q_O23, fun h0_ => absurd ((hoff 4 (by kernel_rfl)).symm.trans h0_) (by decide), fun h0_ => absurd ((hoff 4 (by kernel_rfl)).symm.trans h0_) (by decide), Q_BZ42, Q_Z44, Q_BZ45, Q_Z47, fun _ h1_ => absurd ((hoff 11 (by kernel_rfl)).symm.trans h1_) (by decide), fun _ h1_ => absurd ((hoff 12 (by kernel_rfl)).symm.trans h1_) (by decide), Q_X1_, fun h0_ => absurd ((hoff 4 (by kernel_rfl)).symm.trans h0_) (by decide), fun h0_ => absurd ((hoff 5 (by kernel_rfl)).symm.trans h0_) (by decide), fun h0_ => absurd ((hoff 6 (by kernel_rfl)).symm.trans h0_) (by decide), Q_X9_, Q_X10_⟩
    refine steps_cons ?_ ?_
    · rintro b a w' ⟨A5r1_0_, c5r1_0_, A5r1_6_, c5r1_6_, A5r4_0_, c5r4_0_, A5r4_6_, c5r4_6_, g5r9_, g5r10_, m1_, m4_, m5_, m6_, m9_, m10_, ha, Q_HD13, Q_O22, Q_O23, Q_O40, Q_O41, Q_BZ42, Q_Z44, Q_BZ45, Q_Z47, Q_BK43, Q_BK46, Q_X1_, Q_X4_, Q_X5_, Q_X6_, Q_X9_, Q_X10_⟩ hb_ hon hoff
      refine ⟨_, rfl, fun K hK => ?_⟩
      have e27 : a.tmps[27]? = some (.agg #[.int .i64 a1_0, .int .i64 a1_1]) := by rw [ha]; exact putSel_on (e := (2, 27, .agg #[.int .i64 a1_0, .int .i64 a1_1])) 2 rfl rfl (hon 2 (by kernel_rfl)) rfl
      replace ha := Aside0.mk ha
      have HD13 := Aside0.mk Q_HD13
      have O22 := Aside0.mk (Q_O22 (hon 1 (by kernel_rfl)) (hoff 4 (by kernel_rfl)))
      have O23 := Aside0.mk (Q_O23 (hon 1 (by kernel_rfl)) (hoff 4 (by kernel_rfl)))
      refine goes_ Try.func38 (by kernel_rfl) rfl #[.agg #[.int .i64 a1_0, .int .i64 a1_1]] (by rfl) rfl rfl (by first | (simp only [List.map_toArray, List.map_cons, List.map_nil, Act.eval, Array.getD_eq_getD_getElem?, Option.getD_some, e27]; done) | (simp only [List.map_toArray, List.map_cons, List.map_nil, Act.eval, Array.getD_eq_getD_getElem?, Option.getD_some, e27]; rfl)) ?_
      with_reducible refine (laws_toAsked.calls a1_0 a1_1 r24 r25 w'  e26.out).mono ?_
      rintro e wn3_ ⟨rfl, hb⟩
      refine ⟨_, rfl, ?_⟩
      refine hK.out _ _ ⟨A5r1_0_, c5r1_0_, A5r1_6_, c5r1_6_, A5r4_0_, c5r4_0_, A5r4_6_, c5r4_6_, g5r9_, g5r10_, m1_, m4_, m5_, m6_, m9_, m10_, (by rw [ha.out]; exact putSel_upk 3 hb_ rfl rfl rfl), below_step HD13.out hb, fun _ _ => Kd.S_below O22.out hb, fun _ _ => Kd.R_below O23.out hb, fun h0_ => absurd ((hoff 4 (by kernel_rfl)).symm.trans h0_) (by decide), fun h0_ => absurd ((hoff 4 (by kernel_rfl)).symm.trans h0_) (by decide), fun h0_ h1_ => blk_below (Q_BZ42 h0_ h1_) hb, Q_Z44, fun h0_ h1_ => blk_below (Q_BZ45 h0_ h1_) hb, Q_Z47, fun _ h1_ => absurd ((hoff 11 (by kernel_rfl)).symm.trans h1_) (by decide), fun _ h1_ => absurd ((hoff 12 (by kernel_rfl)).symm.trans h1_) (by decide), Q_X1_, fun h0_ => absurd ((hoff 4 (by kernel_rfl)).symm.trans h0_) (by decide), fun h0_ => absurd ((hoff 5 (by kernel_rfl)).symm.trans h0_) (by decide), fun h0_ => absurd ((hoff 6 (by kernel_rfl)).symm.trans h0_) (by decide), Q_X9_, Q_X10_⟩
    refine steps_cons ?_ ?_
    · rintro b a w' ⟨A5r1_0_, c5r1_0_, A5r1_6_, c5r1_6_, A5r4_0_, c5r4_0_, A5r4_6_, c5r4_6_, g5r9_, g5r10_, m1_, m4_, m5_, m6_, m9_, m10_, ha, Q_HD13, Q_O22, Q_O23, Q_O40, Q_O41, Q_BZ42, Q_Z44, Q_BZ45, Q_Z47, Q_BK43, Q_BK46, Q_X1_, Q_X4_, Q_X5_, Q_X6_, Q_X9_, Q_X10_⟩ hb_ hon hoff
      refine ⟨_, rfl, fun K hK => ?_⟩
      have e26 : a.tmps[26]? = some (m1_) := by rw [ha]; exact putSel_on (e := (1, 26, m1_)) 1 rfl rfl (hon 1 (by kernel_rfl)) rfl
      rw [Q_X1_ (hon 1 (by kernel_rfl))] at e26
      have e28 : a.tmps[28]? = some (.agg #[.int .i64 r24, .int .i64 r25]) := by rw [ha]; exact putSel_on (e := (3, 28, .agg #[.int .i64 r24, .int .i64 r25])) 3 rfl rfl (hon 3 (by kernel_rfl)) rfl
      replace ha := Aside0.mk ha
      have HD13 := Aside0.mk Q_HD13
      have O22 := Aside0.mk (Q_O22 (hon 1 (by kernel_rfl)) hb_)
      have O23 := Aside0.mk (Q_O23 (hon 1 (by kernel_rfl)) hb_)
      refine goes_ Try.func36 (by kernel_rfl) rfl #[.agg #[.slice A5r1_0_ r14.length c5r1_0_, .int .i64 r15, .int .i64 r16, .int .i64 r17, .int .i64 r18, .int .i64 r19, .slice A5r1_6_ r20.length c5r1_6_], .agg #[.int .i64 r24, .int .i64 r25]] (by rfl) rfl rfl (by first | (simp only [List.map_toArray, List.map_cons, List.map_nil, Act.eval, Array.getD_eq_getD_getElem?, Option.getD_some, e26, e28]; done) | (simp only [List.map_toArray, List.map_cons, List.map_nil, Act.eval, Array.getD_eq_getD_getElem?, Option.getD_some, e26, e28]; rfl)) ?_
      with_reducible refine (spec_Give.calls k A5r1_0_ c5r1_0_ r14 r15 r16 r17 r18 r19 A5r1_6_ c5r1_6_ r20 r24 r25 r27 r28 r29 r30 r31 r32 r33 r34 r35 r36 r37 r38 w' (Kd.S_reads' O22.out).2.2 (Kd.S_reads' O22.out).2.1 (Kd.R_reads' O23.out).2.2 (Kd.R_reads' O23.out).2.1 e39.out).mono ?_
      rintro e wn4_ ⟨v4_0, v4_6, rfl, h4_0, h4_6, hb⟩
      refine ⟨_, rfl, ?_⟩
      obtain ⟨A5r4_0_n, c5r4_0_n, rfl⟩ := Kd.S_slice h4_0
      obtain ⟨A5r4_6_n, c5r4_6_n, rfl⟩ := Kd.R_slice h4_6
      refine hK.out _ _ ⟨A5r1_0_, c5r1_0_, A5r1_6_, c5r1_6_, A5r4_0_n, c5r4_0_n, A5r4_6_n, c5r4_6_n, g5r9_, g5r10_, m1_, (.tuple #[.agg #[.slice A5r4_0_n r27.length c5r4_0_n, .int .i64 r28, .int .i64 r29, .int .i64 r30, .int .i64 r31, .int .i64 r32, .slice A5r4_6_n r33.length c5r4_6_n], .agg #[.int .i64 r34, .int .i64 r35, .int .i64 r36, .int .i64 r37], .bool r38]), m5_, m6_, m9_, m10_, (by rw [ha.out]; exact putSel_upk 4 hb_ rfl rfl rfl), below_step HD13.out hb, fun _ h1_ => absurd ((up_self b 4).symm.trans h1_) (by decide), fun _ h1_ => absurd ((up_self b 4).symm.trans h1_) (by decide), fun _ => Kd.S_lower (Kd.S_mono (Kd.S_bound h4_0) (fun k_ hk => trivial)) (below_size HD13.out), fun _ => Kd.R_lower (Kd.R_mono (Kd.R_bound h4_6) (fun k_ hk => trivial)) (below_size HD13.out), fun h0_ h1_ => blk_below (Q_BZ42 h0_ h1_) hb, Q_Z44, fun h0_ h1_ => blk_below (Q_BZ45 h0_ h1_) hb, Q_Z47, fun _ h1_ => absurd ((hoff 11 (by kernel_rfl)).symm.trans h1_) (by decide), fun _ h1_ => absurd ((hoff 12 (by kernel_rfl)).symm.trans h1_) (by decide), Q_X1_, fun _ => rfl, fun h0_ => absurd ((hoff 5 (by kernel_rfl)).symm.trans h0_) (by decide), fun h0_ => absurd ((hoff 6 (by kernel_rfl)).symm.trans h0_) (by decide), Q_X9_, Q_X10_⟩
    refine steps_cons ?_ ?_
    · rintro b a w' ⟨A5r1_0_, c5r1_0_, A5r1_6_, c5r1_6_, A5r4_0_, c5r4_0_, A5r4_6_, c5r4_6_, g5r9_, g5r10_, m1_, m4_, m5_, m6_, m9_, m10_, ha, Q_HD13, Q_O22, Q_O23, Q_O40, Q_O41, Q_BZ42, Q_Z44, Q_BZ45, Q_Z47, Q_BK43, Q_BK46, Q_X1_, Q_X4_, Q_X5_, Q_X6_, Q_X9_, Q_X10_⟩ hb_ hon hoff
      refine ⟨_, rfl, fun K hK => ?_⟩
      have e29 : a.tmps[29]? = some (m4_) := by rw [ha]; exact putSel_on (e := (4, 29, m4_)) 4 rfl rfl (hon 4 (by kernel_rfl)) rfl
      rw [Q_X4_ (hon 4 (by kernel_rfl))] at e29
      replace ha := Aside0.mk ha
      have HD13 := Aside0.mk Q_HD13
      have O40 := Aside0.mk (Q_O40 (hon 4 (by kernel_rfl)))
      have O41 := Aside0.mk (Q_O41 (hon 4 (by kernel_rfl)))
      refine value_ (w1 := w') (v := .tuple #[.agg #[.slice A5r4_0_ r27.length c5r4_0_, .int .i64 r28, .int .i64 r29, .int .i64 r30, .int .i64 r31, .int .i64 r32, .slice A5r4_6_ r33.length c5r4_6_], .agg #[.int .i64 r34, .int .i64 r35, .int .i64 r36, .int .i64 r37], .bool r38]) (by rfl) rfl ?_ ?_
      · go_simp
        (try simp only [i64_w])
        try rfl
      refine hK.out _ _ ⟨A5r1_0_, c5r1_0_, A5r1_6_, c5r1_6_, A5r4_0_, c5r4_0_, A5r4_6_, c5r4_6_, g5r9_, g5r10_, m1_, m4_, (.tuple #[.agg #[.slice A5r4_0_ r27.length c5r4_0_, .int .i64 r28, .int .i64 r29, .int .i64 r30, .int .i64 r31, .int .i64 r32, .slice A5r4_6_ r33.length c5r4_6_], .agg #[.int .i64 r34, .int .i64 r35, .int .i64 r36, .int .i64 r37], .bool r38]), m6_, m9_, m10_, (by rw [ha.out]; exact putSel_upk 5 hb_ rfl rfl rfl), Q_HD13, fun _ h1_ => absurd ((hon 4 (by kernel_rfl)).symm.trans h1_) (by decide), fun _ h1_ => absurd ((hon 4 (by kernel_rfl)).symm.trans h1_) (by decide), Q_O40, Q_O41, Q_BZ42, Q_Z44, Q_BZ45, Q_Z47, fun _ h1_ => absurd ((hoff 11 (by kernel_rfl)).symm.trans h1_) (by decide), fun _ h1_ => absurd ((hoff 12 (by kernel_rfl)).symm.trans h1_) (by decide), Q_X1_, Q_X4_, fun _ => rfl, fun h0_ => absurd ((hoff 6 (by kernel_rfl)).symm.trans h0_) (by decide), Q_X9_, Q_X10_⟩
    refine steps_cons ?_ ?_
    · rintro b a w' ⟨A5r1_0_, c5r1_0_, A5r1_6_, c5r1_6_, A5r4_0_, c5r4_0_, A5r4_6_, c5r4_6_, g5r9_, g5r10_, m1_, m4_, m5_, m6_, m9_, m10_, ha, Q_HD13, Q_O22, Q_O23, Q_O40, Q_O41, Q_BZ42, Q_Z44, Q_BZ45, Q_Z47, Q_BK43, Q_BK46, Q_X1_, Q_X4_, Q_X5_, Q_X6_, Q_X9_, Q_X10_⟩ hb_ hon hoff
      refine ⟨_, rfl, fun K hK => ?_⟩
      have e24 : a.tmps[24]? = some (m5_) := by rw [ha]; exact putSel_on (e := (5, 24, m5_)) 5 rfl rfl (hon 5 (by kernel_rfl)) rfl
      rw [Q_X5_ (hon 5 (by kernel_rfl))] at e24
      replace ha := Aside0.mk ha
      have HD13 := Aside0.mk Q_HD13
      have O40 := Aside0.mk (Q_O40 (hon 4 (by kernel_rfl)))
      have O41 := Aside0.mk (Q_O41 (hon 4 (by kernel_rfl)))
      refine value_ (w1 := w') (v := .agg #[.slice A5r4_0_ r27.length c5r4_0_, .int .i64 r28, .int .i64 r29, .int .i64 r30, .int .i64 r31, .int .i64 r32, .slice A5r4_6_ r33.length c5r4_6_]) (by rfl) rfl ?_ ?_
      · go_simp
        (try simp only [i64_w])
        try rfl
      refine hK.out _ _ ⟨A5r1_0_, c5r1_0_, A5r1_6_, c5r1_6_, A5r4_0_, c5r4_0_, A5r4_6_, c5r4_6_, g5r9_, g5r10_, m1_, m4_, m5_, (.agg #[.slice A5r4_0_ r27.length c5r4_0_, .int .i64 r28, .int .i64 r29, .int .i64 r30, .int .i64 r31, .int .i64 r32, .slice A5r4_6_ r33.length c5r4_6_]), m9_, m10_, (by rw [ha.out]; exact putSel_upk 6 hb_ rfl rfl rfl), Q_HD13, fun _ h1_ => absurd ((hon 4 (by kernel_rfl)).symm.trans h1_) (by decide), fun _ h1_ => absurd ((hon 4 (by kernel_rfl)).symm.trans h1_) (by decide), Q_O40, Q_O41, Q_BZ42, Q_Z44, Q_BZ45, Q_Z47, fun _ h1_ => absurd ((hoff 11 (by kernel_rfl)).symm.trans h1_) (by decide), fun _ h1_ => absurd ((hoff 12 (by kernel_rfl)).symm.trans h1_) (by decide), Q_X1_, Q_X4_, Q_X5_, fun _ => rfl, Q_X9_, Q_X10_⟩
    refine steps_cons ?_ ?_
    · rintro b a w' ⟨A5r1_0_, c5r1_0_, A5r1_6_, c5r1_6_, A5r4_0_, c5r4_0_, A5r4_6_, c5r4_6_, g5r9_, g5r10_, m1_, m4_, m5_, m6_, m9_, m10_, ha, Q_HD13, Q_O22, Q_O23, Q_O40, Q_O41, Q_BZ42, Q_Z44, Q_BZ45, Q_Z47, Q_BK43, Q_BK46, Q_X1_, Q_X4_, Q_X5_, Q_X6_, Q_X9_, Q_X10_⟩ hb_ hon hoff
      refine ⟨_, rfl, fun K hK => ?_⟩
      have e24 : a.tmps[24]? = some (m5_) := by rw [ha]; exact putSel_on (e := (5, 24, m5_)) 5 rfl rfl (hon 5 (by kernel_rfl)) rfl
      rw [Q_X5_ (hon 5 (by kernel_rfl))] at e24
      replace ha := Aside0.mk ha
      have HD13 := Aside0.mk Q_HD13
      have O40 := Aside0.mk (Q_O40 (hon 4 (by kernel_rfl)))
      have O41 := Aside0.mk (Q_O41 (hon 4 (by kernel_rfl)))
      refine value_ (w1 := w') (v := .agg #[.int .i64 r34, .int .i64 r35, .int .i64 r36, .int .i64 r37]) (by rfl) rfl ?_ ?_
      · go_simp
        (try simp only [i64_w])
        try rfl
      refine hK.out _ _ ⟨A5r1_0_, c5r1_0_, A5r1_6_, c5r1_6_, A5r4_0_, c5r4_0_, A5r4_6_, c5r4_6_, g5r9_, g5r10_, m1_, m4_, m5_, m6_, m9_, m10_, (by rw [ha.out]; exact putSel_upk 7 hb_ rfl rfl rfl), Q_HD13, fun _ h1_ => absurd ((hon 4 (by kernel_rfl)).symm.trans h1_) (by decide), fun _ h1_ => absurd ((hon 4 (by kernel_rfl)).symm.trans h1_) (by decide), Q_O40, Q_O41, Q_BZ42, Q_Z44, Q_BZ45, Q_Z47, Q_BK43, fun _ h1_ => absurd ((hoff 12 (by kernel_rfl)).symm.trans h1_) (by decide), Q_X1_, Q_X4_, Q_X5_, Q_X6_, Q_X9_, Q_X10_⟩
    refine steps_cons ?_ ?_
    · rintro b a w' ⟨A5r1_0_, c5r1_0_, A5r1_6_, c5r1_6_, A5r4_0_, c5r4_0_, A5r4_6_, c5r4_6_, g5r9_, g5r10_, m1_, m4_, m5_, m6_, m9_, m10_, ha, Q_HD13, Q_O22, Q_O23, Q_O40, Q_O41, Q_BZ42, Q_Z44, Q_BZ45, Q_Z47, Q_BK43, Q_BK46, Q_X1_, Q_X4_, Q_X5_, Q_X6_, Q_X9_, Q_X10_⟩ hb_ hon hoff
      refine ⟨_, rfl, fun K hK => ?_⟩
      have e24 : a.tmps[24]? = some (m5_) := by rw [ha]; exact putSel_on (e := (5, 24, m5_)) 5 rfl rfl (hon 5 (by kernel_rfl)) rfl
      rw [Q_X5_ (hon 5 (by kernel_rfl))] at e24
      replace ha := Aside0.mk ha
      have HD13 := Aside0.mk Q_HD13
      have O40 := Aside0.mk (Q_O40 (hon 4 (by kernel_rfl)))
      have O41 := Aside0.mk (Q_O41 (hon 4 (by kernel_rfl)))
      refine value_ (w1 := w') (v := .bool r38) (by rfl) rfl ?_ ?_
      · go_simp
        (try simp only [i64_w])
        try rfl
      refine hK.out _ _ ⟨A5r1_0_, c5r1_0_, A5r1_6_, c5r1_6_, A5r4_0_, c5r4_0_, A5r4_6_, c5r4_6_, g5r9_, g5r10_, m1_, m4_, m5_, m6_, m9_, m10_, (by rw [ha.out]; exact putSel_upk 8 hb_ rfl rfl rfl), Q_HD13, fun _ h1_ => absurd ((hon 4 (by kernel_rfl)).symm.trans h1_) (by decide), fun _ h1_ => absurd ((hon 4 (by kernel_rfl)).symm.trans h1_) (by decide), Q_O40, Q_O41, Q_BZ42, Q_Z44, Q_BZ45, Q_Z47, Q_BK43, Q_BK46, Q_X1_, Q_X4_, Q_X5_, Q_X6_, Q_X9_, Q_X10_⟩
    refine steps_cons ?_ ?_
    · rintro b a w' ⟨A5r1_0_, c5r1_0_, A5r1_6_, c5r1_6_, A5r4_0_, c5r4_0_, A5r4_6_, c5r4_6_, g5r9_, g5r10_, m1_, m4_, m5_, m6_, m9_, m10_, ha, Q_HD13, Q_O22, Q_O23, Q_O40, Q_O41, Q_BZ42, Q_Z44, Q_BZ45, Q_Z47, Q_BK43, Q_BK46, Q_X1_, Q_X4_, Q_X5_, Q_X6_, Q_X9_, Q_X10_⟩ hb_ hon hoff
      refine ⟨_, rfl, fun K hK => ?_⟩
      replace ha := Aside0.mk ha
      have HD13 := Aside0.mk Q_HD13
      refine box_step ?hg (N := 6) ?hd (cs := #[.slice none 0 0, .int .i64 0, .int .i64 0, .int .i64 0, .int .i64 0, .int .i64 0, .slice none 0 0]) (t := 70) ?hr ?_; (case hd => rfl); (case hg => rfl); (case hr => first | (go_simp; done) | (go_simp; rfl))
      intro g5r9_n hg wn9_ hbox hb
      refine hK.out _ _ ⟨A5r1_0_, c5r1_0_, A5r1_6_, c5r1_6_, A5r4_0_, c5r4_0_, A5r4_6_, c5r4_6_, g5r9_n, g5r10_, m1_, m4_, m5_, m6_, (.pointer (some ⟨g5r9_n, 0, none⟩)), m10_, (by rw [ha.out]; exact putSel_upk 9 hb_ rfl rfl rfl), below_step HD13.out hb, fun h0_ h1_ => Kd.S_below (Q_O22 h0_ h1_) hb, fun h0_ h1_ => Kd.R_below (Q_O23 h0_ h1_) hb, fun h0_ => Kd.S_below (Q_O40 h0_) hb, fun h0_ => Kd.R_below (Q_O41 h0_) hb, fun _ _ => hbox, fun _ => (by rw [hg]; exact below_size HD13.out), fun h0_ h1_ => blk_below (Q_BZ45 h0_ h1_) hb, Q_Z47, fun _ h1_ => absurd ((hoff 11 (by kernel_rfl)).symm.trans h1_) (by decide), fun _ h1_ => absurd ((hoff 12 (by kernel_rfl)).symm.trans h1_) (by decide), Q_X1_, Q_X4_, Q_X5_, Q_X6_, fun _ => rfl, Q_X10_⟩
    refine steps_cons ?_ ?_
    · rintro b a w' ⟨A5r1_0_, c5r1_0_, A5r1_6_, c5r1_6_, A5r4_0_, c5r4_0_, A5r4_6_, c5r4_6_, g5r9_, g5r10_, m1_, m4_, m5_, m6_, m9_, m10_, ha, Q_HD13, Q_O22, Q_O23, Q_O40, Q_O41, Q_BZ42, Q_Z44, Q_BZ45, Q_Z47, Q_BK43, Q_BK46, Q_X1_, Q_X4_, Q_X5_, Q_X6_, Q_X9_, Q_X10_⟩ hb_ hon hoff
      refine ⟨_, rfl, fun K hK => ?_⟩
      replace ha := Aside0.mk ha
      have HD13 := Aside0.mk Q_HD13
      refine box_step ?hg (N := 7) ?hd (cs := #[.int .i64 0, .int .i64 0, .int .i64 0, .int .i64 0]) (t := 32) ?hr ?_; (case hd => rfl); (case hg => rfl); (case hr => first | (go_simp; done) | (go_simp; rfl))
      intro g5r10_n hg wn10_ hbox hb
      refine hK.out _ _ ⟨A5r1_0_, c5r1_0_, A5r1_6_, c5r1_6_, A5r4_0_, c5r4_0_, A5r4_6_, c5r4_6_, g5r9_, g5r10_n, m1_, m4_, m5_, m6_, m9_, (.pointer (some ⟨g5r10_n, 0, none⟩)), (by rw [ha.out]; exact putSel_upk 10 hb_ rfl rfl rfl), below_step HD13.out hb, fun h0_ h1_ => Kd.S_below (Q_O22 h0_ h1_) hb, fun h0_ h1_ => Kd.R_below (Q_O23 h0_ h1_) hb, fun h0_ => Kd.S_below (Q_O40 h0_) hb, fun h0_ => Kd.R_below (Q_O41 h0_) hb, fun h0_ h1_ => blk_below (Q_BZ42 h0_ h1_) hb, Q_Z44, fun _ _ => hbox, fun _ => (by rw [hg]; exact below_size HD13.out), fun _ h1_ => absurd ((hoff 11 (by kernel_rfl)).symm.trans h1_) (by decide), fun _ h1_ => absurd ((hoff 12 (by kernel_rfl)).symm.trans h1_) (by decide), Q_X1_, Q_X4_, Q_X5_, Q_X6_, Q_X9_, fun _ => rfl⟩
    refine steps_cons ?_ ?_
    · rintro b a w' ⟨A5r1_0_, c5r1_0_, A5r1_6_, c5r1_6_, A5r4_0_, c5r4_0_, A5r4_6_, c5r4_6_, g5r9_, g5r10_, m1_, m4_, m5_, m6_, m9_, m10_, ha, Q_HD13, Q_O22, Q_O23, Q_O40, Q_O41, Q_BZ42, Q_Z44, Q_BZ45, Q_Z47, Q_BK43, Q_BK46, Q_X1_, Q_X4_, Q_X5_, Q_X6_, Q_X9_, Q_X10_⟩ hb_ hon hoff
      refine ⟨_, rfl, fun K hK => ?_⟩
      have e6 : a.tmps[6]? = some (m9_) := by rw [ha]; exact putSel_on (e := (9, 6, m9_)) 9 rfl rfl (hon 9 (by kernel_rfl)) rfl
      rw [Q_X9_ (hon 9 (by kernel_rfl))] at e6
      have e30 : a.tmps[30]? = some (m6_) := by rw [ha]; exact putSel_on (e := (6, 30, m6_)) 6 rfl rfl (hon 6 (by kernel_rfl)) rfl
      rw [Q_X6_ (hon 6 (by kernel_rfl))] at e30
      replace ha := Aside0.mk ha
      have HD13 := Aside0.mk Q_HD13
      have O40 := Aside0.mk (Q_O40 (hon 4 (by kernel_rfl)))
      have O41 := Aside0.mk (Q_O41 (hon 4 (by kernel_rfl)))
      have BZ42 := Aside0.mk (Q_BZ42 (hon 9 (by kernel_rfl)) hb_)
      have Z44 := Aside0.mk (Q_Z44 (hon 9 (by kernel_rfl)))
      have BZ45 := Aside0.mk (Q_BZ45 (hon 10 (by kernel_rfl)) (hoff 12 (by kernel_rfl)))
      have Z47 := Aside0.mk (Q_Z47 (hon 10 (by kernel_rfl)))
      have hs0_ : w'.cell? ⟨g5r9_, 0, none⟩ = some (.slice none 0 0) := (blk_cell BZ42.out 0).trans rfl
      have hf0_ := blk_frozen BZ42.out 0
      have hs1_ : w'.cell? ⟨g5r9_, 1, none⟩ = some (.int .i64 0) := (blk_cell BZ42.out 1).trans rfl
      have hf1_ := blk_frozen BZ42.out 1
      have hs2_ : w'.cell? ⟨g5r9_, 2, none⟩ = some (.int .i64 0) := (blk_cell BZ42.out 2).trans rfl
      have hf2_ := blk_frozen BZ42.out 2
      have hs3_ : w'.cell? ⟨g5r9_, 3, none⟩ = some (.int .i64 0) := (blk_cell BZ42.out 3).trans rfl
      have hf3_ := blk_frozen BZ42.out 3
      have hs4_ : w'.cell? ⟨g5r9_, 4, none⟩ = some (.int .i64 0) := (blk_cell BZ42.out 4).trans rfl
      have hf4_ := blk_frozen BZ42.out 4
      have hs5_ : w'.cell? ⟨g5r9_, 5, none⟩ = some (.int .i64 0) := (blk_cell BZ42.out 5).trans rfl
      have hf5_ := blk_frozen BZ42.out 5
      have hs6_ : w'.cell? ⟨g5r9_, 6, none⟩ = some (.slice none 0 0) := (blk_cell BZ42.out 6).trans rfl
      have hf6_ := blk_frozen BZ42.out 6
      have hl_ := blk_lt BZ42.out
      refine skip_ (w1 := ?_) (by rfl) rfl ?_ ?_
      rotate_left
      · go_simp
        rfl
      have hnew_ : ((World.setCell (World.setCell (World.setCell (World.setCell (World.setCell (World.setCell (World.setCell w' ⟨g5r9_, 0, none⟩ (.slice A5r4_0_ r27.length c5r4_0_)) ⟨g5r9_, 1, none⟩ (.int .i64 r28)) ⟨g5r9_, 2, none⟩ (.int .i64 r29)) ⟨g5r9_, 3, none⟩ (.int .i64 r30)) ⟨g5r9_, 4, none⟩ (.int .i64 r31)) ⟨g5r9_, 5, none⟩ (.int .i64 r32)) ⟨g5r9_, 6, none⟩ (.slice A5r4_6_ r33.length c5r4_6_))).heap[g5r9_]? = some (.cells #[.slice A5r4_0_ r27.length c5r4_0_, .int .i64 r28, .int .i64 r29, .int .i64 r30, .int .i64 r31, .int .i64 r32, .slice A5r4_6_ r33.length c5r4_6_] 70 (0, 0)) := (blk_put (cs := #[.slice A5r4_0_ r27.length c5r4_0_, .int .i64 r28, .int .i64 r29, .int .i64 r30, .int .i64 r31, .int .i64 r32, .slice none 0 0]) (cs' := #[.slice A5r4_0_ r27.length c5r4_0_, .int .i64 r28, .int .i64 r29, .int .i64 r30, .int .i64 r31, .int .i64 r32, .slice A5r4_6_ r33.length c5r4_6_]) (blk_put (cs := #[.slice A5r4_0_ r27.length c5r4_0_, .int .i64 r28, .int .i64 r29, .int .i64 r30, .int .i64 r31, .int .i64 0, .slice none 0 0]) (cs' := #[.slice A5r4_0_ r27.length c5r4_0_, .int .i64 r28, .int .i64 r29, .int .i64 r30, .int .i64 r31, .int .i64 r32, .slice none 0 0]) (blk_put (cs := #[.slice A5r4_0_ r27.length c5r4_0_, .int .i64 r28, .int .i64 r29, .int .i64 r30, .int .i64 0, .int .i64 0, .slice none 0 0]) (cs' := #[.slice A5r4_0_ r27.length c5r4_0_, .int .i64 r28, .int .i64 r29, .int .i64 r30, .int .i64 r31, .int .i64 0, .slice none 0 0]) (blk_put (cs := #[.slice A5r4_0_ r27.length c5r4_0_, .int .i64 r28, .int .i64 r29, .int .i64 0, .int .i64 0, .int .i64 0, .slice none 0 0]) (cs' := #[.slice A5r4_0_ r27.length c5r4_0_, .int .i64 r28, .int .i64 r29, .int .i64 r30, .int .i64 0, .int .i64 0, .slice none 0 0]) (blk_put (cs := #[.slice A5r4_0_ r27.length c5r4_0_, .int .i64 r28, .int .i64 0, .int .i64 0, .int .i64 0, .int .i64 0, .slice none 0 0]) (cs' := #[.slice A5r4_0_ r27.length c5r4_0_, .int .i64 r28, .int .i64 r29, .int .i64 0, .int .i64 0, .int .i64 0, .slice none 0 0]) (blk_put (cs := #[.slice A5r4_0_ r27.length c5r4_0_, .int .i64 0, .int .i64 0, .int .i64 0, .int .i64 0, .int .i64 0, .slice none 0 0]) (cs' := #[.slice A5r4_0_ r27.length c5r4_0_, .int .i64 r28, .int .i64 0, .int .i64 0, .int .i64 0, .int .i64 0, .slice none 0 0]) (blk_put (cs := #[.slice none 0 0, .int .i64 0, .int .i64 0, .int .i64 0, .int .i64 0, .int .i64 0, .slice none 0 0]) (cs' := #[.slice A5r4_0_ r27.length c5r4_0_, .int .i64 0, .int .i64 0, .int .i64 0, .int .i64 0, .int .i64 0, .slice none 0 0]) BZ42.out 0 (.slice A5r4_0_ r27.length c5r4_0_) rfl) 1 (.int .i64 r28) rfl) 2 (.int .i64 r29) rfl) 3 (.int .i64 r30) rfl) 4 (.int .i64 r31) rfl) 5 (.int .i64 r32) rfl) 6 (.slice A5r4_6_ r33.length c5r4_6_) rfl)
      have hg_ : w'.grownBy (World.setCell (World.setCell (World.setCell (World.setCell (World.setCell (World.setCell (World.setCell w' ⟨g5r9_, 0, none⟩ (.slice A5r4_0_ r27.length c5r4_0_)) ⟨g5r9_, 1, none⟩ (.int .i64 r28)) ⟨g5r9_, 2, none⟩ (.int .i64 r29)) ⟨g5r9_, 3, none⟩ (.int .i64 r30)) ⟨g5r9_, 4, none⟩ (.int .i64 r31)) ⟨g5r9_, 5, none⟩ (.int .i64 r32)) ⟨g5r9_, 6, none⟩ (.slice A5r4_6_ r33.length c5r4_6_)) (some g5r9_) := grown_set_ (grown_set_ (grown_set_ (grown_set_ (grown_set_ (grown_set_ (grown_set_ (World.grownBy.refl _ _) _ _) _ _) _ _) _ _) _ _) _ _) _ _
      generalize (World.setCell (World.setCell (World.setCell (World.setCell (World.setCell (World.setCell (World.setCell w' ⟨g5r9_, 0, none⟩ (.slice A5r4_0_ r27.length c5r4_0_)) ⟨g5r9_, 1, none⟩ (.int .i64 r28)) ⟨g5r9_, 2, none⟩ (.int .i64 r29)) ⟨g5r9_, 3, none⟩ (.int .i64 r30)) ⟨g5r9_, 4, none⟩ (.int .i64 r31)) ⟨g5r9_, 5, none⟩ (.int .i64 r32)) ⟨g5r9_, 6, none⟩ (.slice A5r4_6_ r33.length c5r4_6_)) = wn11_ at hnew_ hg_ ⊢
      refine hK.out _ _ ⟨A5r1_0_, c5r1_0_, A5r1_6_, c5r1_6_, A5r4_0_, c5r4_0_, A5r4_6_, c5r4_6_, g5r9_, g5r10_, m1_, m4_, m5_, m6_, m9_, m10_, (by rw [ha.out]; exact putSel_none (v := undef) rfl), below_grown_ HD13.out hg_ Z44.out, fun _ h1_ => absurd ((hon 4 (by kernel_rfl)).symm.trans h1_) (by decide), fun _ h1_ => absurd ((hon 4 (by kernel_rfl)).symm.trans h1_) (by decide), fun _ => Kd.S_mono (Kd.S_grown (Kd.S_types O40.out BZ42.out (by decide)) hg_ (fun k_ hk_ e_ => hk_.2 (Option.some.inj e_))) (fun _ h_ => h_.1), fun _ => Kd.R_mono (Kd.R_grown (Kd.R_types O41.out BZ42.out (by decide)) hg_ (fun k_ hk_ e_ => hk_.2 (Option.some.inj e_))) (fun _ h_ => h_.1), fun _ h1_ => absurd ((up_self b 11).symm.trans h1_) (by decide), Q_Z44, fun _ _ => blk_grown BZ45.out hg_ (fun e_ => Blk_ne BZ45.out BZ42.out (by decide) (Option.some.inj e_)), Q_Z47, fun _ _ => hnew_, fun _ h1_ => absurd ((hoff 12 (by kernel_rfl)).symm.trans h1_) (by decide), Q_X1_, Q_X4_, Q_X5_, Q_X6_, Q_X9_, Q_X10_⟩
    refine steps_cons ?_ ?_
    · rintro b a w' ⟨A5r1_0_, c5r1_0_, A5r1_6_, c5r1_6_, A5r4_0_, c5r4_0_, A5r4_6_, c5r4_6_, g5r9_, g5r10_, m1_, m4_, m5_, m6_, m9_, m10_, ha, Q_HD13, Q_O22, Q_O23, Q_O40, Q_O41, Q_BZ42, Q_Z44, Q_BZ45, Q_Z47, Q_BK43, Q_BK46, Q_X1_, Q_X4_, Q_X5_, Q_X6_, Q_X9_, Q_X10_⟩ hb_ hon hoff
      refine ⟨_, rfl, fun K hK => ?_⟩
      have e7 : a.tmps[7]? = some (m10_) := by rw [ha]; exact putSel_on (e := (10, 7, m10_)) 10 rfl rfl (hon 10 (by kernel_rfl)) rfl
      rw [Q_X10_ (hon 10 (by kernel_rfl))] at e7
      have e31 : a.tmps[31]? = some (.agg #[.int .i64 r34, .int .i64 r35, .int .i64 r36, .int .i64 r37]) := by rw [ha]; exact putSel_on (e := (7, 31, .agg #[.int .i64 r34, .int .i64 r35, .int .i64 r36, .int .i64 r37])) 7 rfl rfl (hon 7 (by kernel_rfl)) rfl
      replace ha := Aside0.mk ha
      have HD13 := Aside0.mk Q_HD13
      have O40 := Aside0.mk (Q_O40 (hon 4 (by kernel_rfl)))
      have O41 := Aside0.mk (Q_O41 (hon 4 (by kernel_rfl)))
      have Z44 := Aside0.mk (Q_Z44 (hon 9 (by kernel_rfl)))
      have BZ45 := Aside0.mk (Q_BZ45 (hon 10 (by kernel_rfl)) hb_)
      have Z47 := Aside0.mk (Q_Z47 (hon 10 (by kernel_rfl)))
      have BK43 := Aside0.mk (Q_BK43 (hon 9 (by kernel_rfl)) (hon 11 (by kernel_rfl)))
      have hs0_ : w'.cell? ⟨g5r10_, 0, none⟩ = some (.int .i64 0) := (blk_cell BZ45.out 0).trans rfl
      have hf0_ := blk_frozen BZ45.out 0
      have hs1_ : w'.cell? ⟨g5r10_, 1, none⟩ = some (.int .i64 0) := (blk_cell BZ45.out 1).trans rfl
      have hf1_ := blk_frozen BZ45.out 1
      have hs2_ : w'.cell? ⟨g5r10_, 2, none⟩ = some (.int .i64 0) := (blk_cell BZ45.out 2).trans rfl
      have hf2_ := blk_frozen BZ45.out 2
      have hs3_ : w'.cell? ⟨g5r10_, 3, none⟩ = some (.int .i64 0) := (blk_cell BZ45.out 3).trans rfl
      have hf3_ := blk_frozen BZ45.out 3
      have hl_ := blk_lt BZ45.out
      refine skip_ (w1 := ?_) (by rfl) rfl ?_ ?_
      rotate_left
      · go_simp
        rfl
      have hnew_ : ((World.setCell (World.setCell (World.setCell (World.setCell w' ⟨g5r10_, 0, none⟩ (.int .i64 r34)) ⟨g5r10_, 1, none⟩ (.int .i64 r35)) ⟨g5r10_, 2, none⟩ (.int .i64 r36)) ⟨g5r10_, 3, none⟩ (.int .i64 r37))).heap[g5r10_]? = some (.cells #[.int .i64 r34, .int .i64 r35, .int .i64 r36, .int .i64 r37] 32 (0, 0)) := (blk_put (cs := #[.int .i64 r34, .int .i64 r35, .int .i64 r36, .int .i64 0]) (cs' := #[.int .i64 r34, .int .i64 r35, .int .i64 r36, .int .i64 r37]) (blk_put (cs := #[.int .i64 r34, .int .i64 r35, .int .i64 0, .int .i64 0]) (cs' := #[.int .i64 r34, .int .i64 r35, .int .i64 r36, .int .i64 0]) (blk_put (cs := #[.int .i64 r34, .int .i64 0, .int .i64 0, .int .i64 0]) (cs' := #[.int .i64 r34, .int .i64 r35, .int .i64 0, .int .i64 0]) (blk_put (cs := #[.int .i64 0, .int .i64 0, .int .i64 0, .int .i64 0]) (cs' := #[.int .i64 r34, .int .i64 0, .int .i64 0, .int .i64 0]) BZ45.out 0 (.int .i64 r34) rfl) 1 (.int .i64 r35) rfl) 2 (.int .i64 r36) rfl) 3 (.int .i64 r37) rfl)
      have hg_ : w'.grownBy (World.setCell (World.setCell (World.setCell (World.setCell w' ⟨g5r10_, 0, none⟩ (.int .i64 r34)) ⟨g5r10_, 1, none⟩ (.int .i64 r35)) ⟨g5r10_, 2, none⟩ (.int .i64 r36)) ⟨g5r10_, 3, none⟩ (.int .i64 r37)) (some g5r10_) := grown_set_ (grown_set_ (grown_set_ (grown_set_ (World.grownBy.refl _ _) _ _) _ _) _ _) _ _
      generalize (World.setCell (World.setCell (World.setCell (World.setCell w' ⟨g5r10_, 0, none⟩ (.int .i64 r34)) ⟨g5r10_, 1, none⟩ (.int .i64 r35)) ⟨g5r10_, 2, none⟩ (.int .i64 r36)) ⟨g5r10_, 3, none⟩ (.int .i64 r37)) = wn12_ at hnew_ hg_ ⊢
      refine hK.out _ _ ⟨A5r1_0_, c5r1_0_, A5r1_6_, c5r1_6_, A5r4_0_, c5r4_0_, A5r4_6_, c5r4_6_, g5r9_, g5r10_, m1_, m4_, m5_, m6_, m9_, m10_, (by rw [ha.out]; exact putSel_none (v := undef) rfl), below_grown_ HD13.out hg_ Z47.out, fun _ h1_ => absurd ((hon 4 (by kernel_rfl)).symm.trans h1_) (by decide), fun _ h1_ => absurd ((hon 4 (by kernel_rfl)).symm.trans h1_) (by decide), fun _ => Kd.S_mono (Kd.S_grown (Kd.S_types O40.out BZ45.out (by decide)) hg_ (fun k_ hk_ e_ => hk_.2 (Option.some.inj e_))) (fun _ h_ => h_.1), fun _ => Kd.R_mono (Kd.R_grown (Kd.R_types O41.out BZ45.out (by decide)) hg_ (fun k_ hk_ e_ => hk_.2 (Option.some.inj e_))) (fun _ h_ => h_.1), fun _ h1_ => absurd ((hon 11 (by kernel_rfl)).symm.trans h1_) (by decide), Q_Z44, fun _ h1_ => absurd ((up_self b 12).symm.trans h1_) (by decide), Q_Z47, fun _ _ => blk_grown BK43.out hg_ (fun e_ => Blk_ne BK43.out BZ45.out (by decide) (Option.some.inj e_)), fun _ _ => hnew_, Q_X1_, Q_X4_, Q_X5_, Q_X6_, Q_X9_, Q_X10_⟩
    refine steps_cons ?_ ?_
    · rintro b a w' ⟨A5r1_0_, c5r1_0_, A5r1_6_, c5r1_6_, A5r4_0_, c5r4_0_, A5r4_6_, c5r4_6_, g5r9_, g5r10_, m1_, m4_, m5_, m6_, m9_, m10_, ha, Q_HD13, Q_O22, Q_O23, Q_O40, Q_O41, Q_BZ42, Q_Z44, Q_BZ45, Q_Z47, Q_BK43, Q_BK46, Q_X1_, Q_X4_, Q_X5_, Q_X6_, Q_X9_, Q_X10_⟩ hb_ hon hoff
      refine ⟨_, rfl, fun K hK => ?_⟩
      have e32 : a.tmps[32]? = some (.bool r38) := by rw [ha]; exact putSel_on (e := (8, 32, .bool r38)) 8 rfl rfl (hon 8 (by kernel_rfl)) rfl
      replace ha := Aside0.mk ha
      have HD13 := Aside0.mk Q_HD13
      have O40 := Aside0.mk (Q_O40 (hon 4 (by kernel_rfl)))
      have O41 := Aside0.mk (Q_O41 (hon 4 (by kernel_rfl)))
      have Z44 := Aside0.mk (Q_Z44 (hon 9 (by kernel_rfl)))
      have Z47 := Aside0.mk (Q_Z47 (hon 10 (by kernel_rfl)))
      have BK43 := Aside0.mk (Q_BK43 (hon 9 (by kernel_rfl)) (hon 11 (by kernel_rfl)))
      have BK46 := Aside0.mk (Q_BK46 (hon 10 (by kernel_rfl)) (hon 12 (by kernel_rfl)))
      refine value_ (w1 := w') (v := .bool r38) (by rfl) rfl ?_ ?_
      · go_simp
        (try simp only [i64_w])
        try rfl
      refine hK.out _ _ ⟨A5r1_0_, c5r1_0_, A5r1_6_, c5r1_6_, A5r4_0_, c5r4_0_, A5r4_6_, c5r4_6_, g5r9_, g5r10_, m1_, m4_, m5_, m6_, m9_, m10_, (by rw [ha.out]; exact putSel_upk 11 hb_ rfl rfl rfl), Q_HD13, fun _ h1_ => absurd ((hon 4 (by kernel_rfl)).symm.trans h1_) (by decide), fun _ h1_ => absurd ((hon 4 (by kernel_rfl)).symm.trans h1_) (by decide), Q_O40, Q_O41, fun _ h1_ => absurd ((hon 11 (by kernel_rfl)).symm.trans h1_) (by decide), Q_Z44, fun _ h1_ => absurd ((hon 12 (by kernel_rfl)).symm.trans h1_) (by decide), Q_Z47, Q_BK43, Q_BK46, Q_X1_, Q_X4_, Q_X5_, Q_X6_, Q_X9_, Q_X10_⟩
    exact steps_nil
  rintro b a w48 hall ⟨A5r1_0_, c5r1_0_, A5r1_6_, c5r1_6_, A5r4_0_, c5r4_0_, A5r4_6_, c5r4_6_, g5r9_, g5r10_, m1_, m4_, m5_, m6_, m9_, m10_, ha, Q_HD13, Q_O22, Q_O23, Q_O40, Q_O41, Q_BZ42, Q_Z44, Q_BZ45, Q_Z47, Q_BK43, Q_BK46, Q_X1_, Q_X4_, Q_X5_, Q_X6_, Q_X9_, Q_X10_⟩
  clear HD13
  have hb0_ := hall 0 (by kernel_rfl)
  have hb1_ := hall 1 (by kernel_rfl)
  have hb2_ := hall 2 (by kernel_rfl)
  have hb3_ := hall 3 (by kernel_rfl)
  have hb4_ := hall 4 (by kernel_rfl)
  have hb5_ := hall 5 (by kernel_rfl)
  have hb6_ := hall 6 (by kernel_rfl)
  have hb7_ := hall 7 (by kernel_rfl)
  have hb8_ := hall 8 (by kernel_rfl)
  have hb9_ := hall 9 (by kernel_rfl)
  have hb10_ := hall 10 (by kernel_rfl)
  have hb11_ := hall 11 (by kernel_rfl)
  have hb12_ := hall 12 (by kernel_rfl)
  have hb13_ := hall 13 (by kernel_rfl)
  subst ha
  obtain rfl := Q_X1_ hb1_
  obtain rfl := Q_X4_ hb4_
  obtain rfl := Q_X5_ hb5_
  obtain rfl := Q_X6_ hb6_
  obtain rfl := Q_X9_ hb9_
  obtain rfl := Q_X10_ hb10_
  simp only [putSel, hb0_, hb1_, hb2_, hb3_, hb4_, hb5_, hb6_, hb7_, hb8_, hb9_, hb10_, hb11_, hb12_, hb13_, if_true, Act.put, List.setIfInBounds_toArray, List.set_cons_zero, List.set_cons_succ]
  have HD13 := Aside0.mk Q_HD13
  clear Q_HD13
  clear Q_O22
  clear Q_O23
  have O40 := Aside0.mk (Q_O40 hb4_)
  clear Q_O40
  have O41 := Aside0.mk (Q_O41 hb4_)
  clear Q_O41
  clear Q_BZ42
  have Z44 := Aside0.mk (Q_Z44 hb9_)
  clear Q_Z44
  clear Q_BZ45
  have Z47 := Aside0.mk (Q_Z47 hb10_)
  clear Q_Z47
  have BK43 := Aside0.mk (Q_BK43 hb9_ hb11_)
  clear Q_BK43
  have BK46 := Aside0.mk (Q_BK46 hb10_ hb12_)
  clear Q_BK46
  clear hall hb0_ hb1_ hb2_ hb3_ hb4_ hb5_ hb6_ hb7_ hb8_ hb9_ hb10_ hb11_ hb12_ hb13_
  replace BK1 := Aside0.mk (blk_below BK1.out HD13.out)
  replace BK2 := Aside0.mk (blk_below BK2.out HD13.out)
  replace O40 := Aside0.mk (show Kd.S (Kd.slice 5 (Kd.int .u8)) 29 w48 w.heap.size (Seg w11.heap.size w48.heap.size w48 [29, 5]) (.slice A5r4_0_ r27.length c5r4_0_) r27 from Kd.S_lower (Kd.S_mono (Kd.S_bound O40.out) (fun k_ hk => ⟨hk.2.1, hk.2.2.1, hk.2.2.2⟩)) (below_size HB.out))
  replace O41 := Aside0.mk (show Kd.R (Kd.int .i64) 3 w48 w.heap.size (Seg w11.heap.size w48.heap.size w48 [3]) (.slice A5r4_6_ r33.length c5r4_6_) r33 from Kd.R_lower (Kd.R_mono (Kd.R_bound O41.out) (fun k_ hk => ⟨hk.2.1, hk.2.2.1, hk.2.2.2⟩)) (below_size HB.out))
  replace HB := Aside0.mk (below_step HB.out HD13.out)
  have Z49 := Aside0.mk (below_size HD13.out)
  clear HD13
  have Z50 := Aside0.mk (blk_lt BK43.out)
  have NS51 := Aside0.mk (show ¬ Seg w11.heap.size w48.heap.size w48 [29, 5] g5r9_ from fun hs_ => Ty_not hs_.2.2 BK43.out (by decide))
  have NS52 := Aside0.mk (show ¬ Seg w11.heap.size w48.heap.size w48 [3] g5r9_ from fun hs_ => Ty_not hs_.2.2 BK43.out (by decide))
  have Z53 := Aside0.mk (blk_lt BK46.out)
  have NS54 := Aside0.mk (show ¬ Seg w11.heap.size w48.heap.size w48 [29, 5] g5r10_ from fun hs_ => Ty_not hs_.2.2 BK46.out (by decide))
  have NS55 := Aside0.mk (show ¬ Seg w11.heap.size w48.heap.size w48 [3] g5r10_ from fun hs_ => Ty_not hs_.2.2 BK46.out (by decide))
  have hz56 : w48.cell? ⟨w.heap.size, 0, none⟩ = some (.slice A0_0 l0_0.length c0_0) := (blk_cell BK1.out 0).trans rfl
  have hz57 : w48.cell? ⟨w.heap.size, 1, none⟩ = some (.int .i64 a0_1) := (blk_cell BK1.out 1).trans rfl
  have hz58 : w48.cell? ⟨w.heap.size, 2, none⟩ = some (.int .i64 a0_2) := (blk_cell BK1.out 2).trans rfl
  have hz59 : w48.cell? ⟨w.heap.size, 3, none⟩ = some (.int .i64 a0_3) := (blk_cell BK1.out 3).trans rfl
  have hz60 : w48.cell? ⟨w.heap.size, 4, none⟩ = some (.int .i64 a0_4) := (blk_cell BK1.out 4).trans rfl
  have hz61 : w48.cell? ⟨w.heap.size, 5, none⟩ = some (.int .i64 a0_5) := (blk_cell BK1.out 5).trans rfl
  have hz62 : w48.cell? ⟨w.heap.size, 6, none⟩ = some (.slice A0_6 l0_6.length c0_6) := (blk_cell BK1.out 6).trans rfl
  have hl63 : w.heap.size < w48.heap.size := blk_lt BK1.out
  go_wp2_with fail
  clear hz56 hz57 hz58 hz59 hz60 hz61 hz62 hl63
  refine (laws_toArena.calls k A0_0 c0_0 l0_0 a0_1 a0_2 a0_3 a0_4 a0_5 A0_6 c0_6 l0_6 r14 r15 r16 r17 r18 r19 r20 w48 (Kd.C_below HR0_0.out HB.out) HC0_0.out (Kd.C_below HR0_6.out HB.out) HC0_6.out e21.out).mono ?_
  rintro e w64 ⟨v0_w64, v6_w64, rfl, h0_w64, h6_w64, hb⟩
  replace BK1 := Aside0.mk (blk_below BK1.out hb)
  replace BK2 := Aside0.mk (blk_below BK2.out hb)
  replace O40 := Aside0.mk (Kd.S_below O40.out hb)
  replace O41 := Aside0.mk (Kd.R_below O41.out hb)
  replace BK43 := Aside0.mk (blk_below BK43.out hb)
  replace BK46 := Aside0.mk (blk_below BK46.out hb)
  obtain ⟨A65, c66, rfl⟩ := Kd.S_slice h0_w64
  have O67 := Aside0.mk (show Kd.S (Kd.slice 5 (Kd.int .u8)) 29 w64 w.heap.size (Seg w48.heap.size w64.heap.size w64 [29, 5]) (.slice A65 r14.length c66) r14 from Kd.S_lower (Kd.S_mono (Kd.S_bound h0_w64) (fun k_ hk => ⟨hk.2.1, hk.2.2.1, hk.2.2.2⟩)) (below_size HB.out))
  obtain ⟨A68, c69, rfl⟩ := Kd.R_slice h6_w64
  have O70 := Aside0.mk (show Kd.R (Kd.int .i64) 3 w64 w.heap.size (Seg w48.heap.size w64.heap.size w64 [3]) (.slice A68 r20.length c69) r20 from Kd.R_lower (Kd.R_mono (Kd.R_bound h6_w64) (fun k_ hk => ⟨hk.2.1, hk.2.2.1, hk.2.2.2⟩)) (below_size HB.out))
  have Z71 := Aside0.mk (below_size hb)
  replace HB := Aside0.mk (below_step HB.out hb)
  clear hb h0_w64 h6_w64
  go_wp2_with fail
  have HA73 := Below.alloc (Below.refl w64.heap.size w64) (Nat.le_refl _) (.cells #[.slice A65 r14.length c66, .int .i64 r15, .int .i64 r16, .int .i64 r17, .int .i64 r18, .int .i64 r19, .slice A68 r20.length c69] 70)
  replace BK1 := Aside0.mk (blk_below BK1.out HA73)
  replace BK2 := Aside0.mk (blk_below BK2.out HA73)
  replace O40 := Aside0.mk (Kd.S_below O40.out HA73)
  replace O41 := Aside0.mk (Kd.R_below O41.out HA73)
  replace BK43 := Aside0.mk (blk_below BK43.out HA73)
  replace BK46 := Aside0.mk (blk_below BK46.out HA73)
  replace O67 := Aside0.mk (Kd.S_below O67.out HA73)
  replace O70 := Aside0.mk (Kd.R_below O70.out HA73)
  have BK72 := Aside0.mk (heap_alloc_new w64 (.cells #[.slice A65 r14.length c66, .int .i64 r15, .int .i64 r16, .int .i64 r17, .int .i64 r18, .int .i64 r19, .slice A68 r20.length c69] 70))
  replace HB := Aside0.mk (below_step HB.out HA73)
  have Z74 := Aside0.mk (show w64.heap.size < (w64.alloc (.cells #[.slice A65 r14.length c66, .int .i64 r15, .int .i64 r16, .int .i64 r17, .int .i64 r18, .int .i64 r19, .slice A68 r20.length c69] 70)).heap.size by simp)
  clear HA73
  refine start_ (n := 13) (S := fun w' => True) (ds := []) #[false, false, false, false, false, false, false, false, false, false, false, false, false] (by kernel_rfl) rfl rfl trivial (fun hHeld => ?_)
  refine with_tabW FnExactGive.tab7 FnExactGive.bits7 (fun HT_ HW_ => ?_)
  replace BK1 := Aside0.mk (blk_drew BK1.out)
  replace BK2 := Aside0.mk (blk_drew BK2.out)
  replace O40 := Aside0.mk (Kd.S_drew O40.out)
  replace O41 := Aside0.mk (Kd.R_drew O41.out)
  replace BK43 := Aside0.mk (blk_drew BK43.out)
  replace BK46 := Aside0.mk (blk_drew BK46.out)
  replace O67 := Aside0.mk (Kd.S_drew O67.out)
  replace O70 := Aside0.mk (Kd.R_drew O70.out)
  replace BK72 := Aside0.mk (blk_drew BK72.out)
  replace HB := Aside0.mk (below_drew1 HB.out)
  have Z76 := Aside0.mk (show (w64.alloc (.cells #[.slice A65 r14.length c66, .int .i64 r15, .int .i64 r16, .int .i64 r17, .int .i64 r18, .int .i64 r19, .slice A68 r20.length c69] 70)).heap.size ≤ (w64.alloc (.cells #[.slice A65 r14.length c66, .int .i64 r15, .int .i64 r16, .int .i64 r17, .int .i64 r18, .int .i64 r19, .slice A68 r20.length c69] 70)).drew.heap.size from Nat.le_refl _)
  generalize (w64.alloc (.cells #[.slice A65 r14.length c66, .int .i64 r15, .int .i64 r16, .int .i64 r17, .int .i64 r18, .int .i64 r19, .slice A68 r20.length c69] 70)).drew = w75 at BK1 BK2 O40 O41 BK43 BK46 O67 O70 BK72 HB Z76 hHeld ⊢
  clear hHeld
  have HD77 := Aside0.mk (Below.refl w75.heap.size w75)
  refine inv_at [0, 1, 2, 3, 4, 5, 6, 7, 8, 9, 10, 11, 12] (fun a0_ b a w' => ∃ (A7r3_0_ : Option Addr) (c7r3_0_ : Nat) (A7r3_6_ : Option Addr) (c7r3_6_ : Nat) (g7r8_ : Nat) (g7r9_ : Nat) (m3_ : Value) (m4_ : Value) (m5_ : Value) (m8_ : Value) (m9_ : Value), a = putSel a0_ b [(0, 36, .agg #[.slice A65 r14.length c66, .int .i64 r15, .int .i64 r16, .int .i64 r17, .int .i64 r18, .int .i64 r19, .slice A68 r20.length c69]), (1, 37, .agg #[.int .i64 a1_0, .int .i64 a1_1]), (2, 38, .agg #[.int .i64 r24, .int .i64 r25]), (3, 39, m3_), (4, 35, m4_), (5, 40, m5_), (6, 41, .agg #[.int .i64 r34, .int .i64 r35, .int .i64 r36, .int .i64 r37]), (7, 42, .bool r38), (8, 10, m8_), (9, 11, m9_), (12, 12, .bool r38)] ∧ (Below w75.heap.size w75 w') ∧ (b 3 = true → Kd.S (Kd.slice 5 (Kd.int .u8)) 29 w' w75.heap.size (fun _ => True) (.slice A7r3_0_ r27.length c7r3_0_) r27) ∧ (b 3 = true → Kd.R (Kd.int .i64) 3 w' w75.heap.size (fun _ => True) (.slice A7r3_6_ r33.length c7r3_6_) r33) ∧ (b 8 = true → b 10 = false → w'.heap[g7r8_]? = some (.cells #[.slice none 0 0, .int .i64 0, .int .i64 0, .int .i64 0, .int .i64 0, .int .i64 0, .slice none 0 0] 70 (0, 0))) ∧ (b 8 = true → w75.heap.size ≤ g7r8_) ∧ (b 9 = true → b 11 = false → w'.heap[g7r9_]? = some (.cells #[.int .i64 0, .int .i64 0, .int .i64 0, .int .i64 0] 32 (0, 0))) ∧ (b 9 = true → w75.heap.size ≤ g7r9_) ∧ (b 8 = true → b 10 = true → w'.heap[g7r8_]? = some (.cells #[.slice A7r3_0_ r27.length c7r3_0_, .int .i64 r28, .int .i64 r29, .int .i64 r30, .int .i64 r31, .int .i64 r32, .slice A7r3_6_ r33.length c7r3_6_] 70 (0, 0))) ∧ (b 9 = true → b 11 = true → w'.heap[g7r9_]? = some (.cells #[.int .i64 r34, .int .i64 r35, .int .i64 r36, .int .i64 r37] 32 (0, 0))) ∧ (b 3 = true → (m3_ : Value) = .tuple #[.agg #[.slice A7r3_0_ r27.length c7r3_0_, .int .i64 r28, .int .i64 r29, .int .i64 r30, .int .i64 r31, .int .i64 r32, .slice A7r3_6_ r33.length c7r3_6_], .agg #[.int .i64 r34, .int .i64 r35, .int .i64 r36, .int .i64 r37], .bool r38]) ∧ (b 4 = true → (m4_ : Value) = .tuple #[.agg #[.slice A7r3_0_ r27.length c7r3_0_, .int .i64 r28, .int .i64 r29, .int .i64 r30, .int .i64 r31, .int .i64 r32, .slice A7r3_6_ r33.length c7r3_6_], .agg #[.int .i64 r34, .int .i64 r35, .int .i64 r36, .int .i64 r37], .bool r38]) ∧ (b 5 = true → (m5_ : Value) = .agg #[.slice A7r3_0_ r27.length c7r3_0_, .int .i64 r28, .int .i64 r29, .int .i64 r30, .int .i64 r31, .int .i64 r32, .slice A7r3_6_ r33.length c7r3_6_]) ∧ (b 8 = true → (m8_ : Value) = .pointer (some ⟨g7r8_, 0, none⟩)) ∧ (b 9 = true → (m9_ : Value) = .pointer (some ⟨g7r9_, 0, none⟩))) HT_.out HW_.out (by kernel_rfl) (by kernel_rfl) ?_ ?_ ?_
  · exact ⟨none, 0, none, 0, 0, 0, .bool false, .bool false, .bool false, .bool false, .bool false, by simp only [putSel, Bool.false_eq_true, if_false], HD77.out, fun h_ => absurd h_ (by decide), fun h_ => absurd h_ (by decide), fun h_ => absurd h_ (by decide), fun h_ => absurd h_ (by decide), fun h_ => absurd h_ (by decide), fun h_ => absurd h_ (by decide), fun h_ => absurd h_ (by decide), fun h_ => absurd h_ (by decide), fun h_ => absurd h_ (by decide), fun h_ => absurd h_ (by decide), fun h_ => absurd h_ (by decide), fun h_ => absurd h_ (by decide), fun h_ => absurd h_ (by decide)⟩
  · skip
    clear HD77
    refine steps_cons ?_ ?_
    · rintro b a w' ⟨A7r3_0_, c7r3_0_, A7r3_6_, c7r3_6_, g7r8_, g7r9_, m3_, m4_, m5_, m8_, m9_, ha, Q_HD77, Q_O79, Q_O80, Q_BZ81, Q_Z83, Q_BZ84, Q_Z86, Q_BK82, Q_BK85, Q_X3_, Q_X4_, Q_X5_, Q_X8_, Q_X9_⟩ hb_ hon hoff
      refine ⟨_, rfl, fun K hK => ?_⟩
      have e9 : a.tmps[9]? = some (.pointer (some ⟨w64.heap.size, 0, none⟩)) := by rw [ha]; exact (putSel_off rfl).trans rfl
      replace ha := Aside0.mk ha
      have HD77 := Aside0.mk Q_HD77
      have hc0_ : w'.cell? ⟨w64.heap.size, 0, none⟩ = some (.slice A65 r14.length c66) := (blk_cell (blk_below BK72.out HD77.out) 0).trans rfl
      have hc1_ : w'.cell? ⟨w64.heap.size, 1, none⟩ = some (.int .i64 r15) := (blk_cell (blk_below BK72.out HD77.out) 1).trans rfl
      have hc2_ : w'.cell? ⟨w64.heap.size, 2, none⟩ = some (.int .i64 r16) := (blk_cell (blk_below BK72.out HD77.out) 2).trans rfl
      have hc3_ : w'.cell? ⟨w64.heap.size, 3, none⟩ = some (.int .i64 r17) := (blk_cell (blk_below BK72.out HD77.out) 3).trans rfl
      have hc4_ : w'.cell? ⟨w64.heap.size, 4, none⟩ = some (.int .i64 r18) := (blk_cell (blk_below BK72.out HD77.out) 4).trans rfl
      have hc5_ : w'.cell? ⟨w64.heap.size, 5, none⟩ = some (.int .i64 r19) := (blk_cell (blk_below BK72.out HD77.out) 5).trans rfl
      have hc6_ : w'.cell? ⟨w64.heap.size, 6, none⟩ = some (.slice A68 r20.length c69) := (blk_cell (blk_below BK72.out HD77.out) 6).trans rfl
      refine value_ (w1 := w') (v := .agg #[.slice A65 r14.length c66, .int .i64 r15, .int .i64 r16, .int .i64 r17, .int .i64 r18, .int .i64 r19, .slice A68 r20.length c69]) (by rfl) rfl ?_ ?_
      · go_simp
        (try simp only [i64_w])
        try rfl
      refine hK.out _ _ ⟨A7r3_0_, c7r3_0_, A7r3_6_, c7r3_6_, g7r8_, g7r9_, m3_, m4_, m5_, m8_, m9_, (by rw [ha.out]; exact putSel_upk 0 hb_ rfl rfl rfl), Q_HD77, fun h0_ => absurd ((hoff 3 (by kernel_rfl)).symm.trans h0_) (by decide), fun h0_ => absurd ((hoff 3 (by kernel_rfl)).symm.trans h0_) (by decide), Q_BZ81, Q_Z83, Q_BZ84, Q_Z86, fun _ h1_ => absurd ((hoff 10 (by kernel_rfl)).symm.trans h1_) (by decide), fun _ h1_ => absurd ((hoff 11 (by kernel_rfl)).symm.trans h1_) (by decide), fun h0_ => absurd ((hoff 3 (by kernel_rfl)).symm.trans h0_) (by decide), fun h0_ => absurd ((hoff 4 (by kernel_rfl)).symm.trans h0_) (by decide), fun h0_ => absurd ((hoff 5 (by kernel_rfl)).symm.trans h0_) (by decide), Q_X8_, Q_X9_⟩
    refine steps_cons ?_ ?_
    · rintro b a w' ⟨A7r3_0_, c7r3_0_, A7r3_6_, c7r3_6_, g7r8_, g7r9_, m3_, m4_, m5_, m8_, m9_, ha, Q_HD77, Q_O79, Q_O80, Q_BZ81, Q_Z83, Q_BZ84, Q_Z86, Q_BK82, Q_BK85, Q_X3_, Q_X4_, Q_X5_, Q_X8_, Q_X9_⟩ hb_ hon hoff
      refine ⟨_, rfl, fun K hK => ?_⟩
      have e3 : a.tmps[3]? = some (.pointer (some ⟨w.heap.size + 1, 0, none⟩)) := by rw [ha]; exact (putSel_off rfl).trans rfl
      replace ha := Aside0.mk ha
      have HD77 := Aside0.mk Q_HD77
      have hc0_ : w'.cell? ⟨w.heap.size + 1, 0, none⟩ = some (.int .i64 a1_0) := (blk_cell (blk_below BK2.out HD77.out) 0).trans rfl
      have hc1_ : w'.cell? ⟨w.heap.size + 1, 1, none⟩ = some (.int .i64 a1_1) := (blk_cell (blk_below BK2.out HD77.out) 1).trans rfl
      refine value_ (w1 := w') (v := .agg #[.int .i64 a1_0, .int .i64 a1_1]) (by rfl) rfl ?_ ?_
      · go_simp
        (try simp only [i64_w])
        try rfl
      refine hK.out _ _ ⟨A7r3_0_, c7r3_0_, A7r3_6_, c7r3_6_, g7r8_, g7r9_, m3_, m4_, m5_, m8_, m9_, (by rw [ha.out]; exact putSel_upk 1 hb_ rfl rfl rfl), Q_HD77, fun h0_ => absurd ((hoff 3 (by kernel_rfl)).symm.trans h0_) (by decide), fun h0_ => absurd ((hoff 3 (by kernel_rfl)).symm.trans h0_) (by decide), Q_BZ81, Q_Z83, Q_BZ84, Q_Z86, fun _ h1_ => absurd ((hoff 10 (by kernel_rfl)).symm.trans h1_) (by decide), fun _ h1_ => absurd ((hoff 11 (by kernel_rfl)).symm.trans h1_) (by decide), fun h0_ => absurd ((hoff 3 (by kernel_rfl)).symm.trans h0_) (by decide), fun h0_ => absurd ((hoff 4 (by kernel_rfl)).symm.trans h0_) (by decide), fun h0_ => absurd ((hoff 5 (by kernel_rfl)).symm.trans h0_) (by decide), Q_X8_, Q_X9_⟩
    refine steps_cons ?_ ?_
    · rintro b a w' ⟨A7r3_0_, c7r3_0_, A7r3_6_, c7r3_6_, g7r8_, g7r9_, m3_, m4_, m5_, m8_, m9_, ha, Q_HD77, Q_O79, Q_O80, Q_BZ81, Q_Z83, Q_BZ84, Q_Z86, Q_BK82, Q_BK85, Q_X3_, Q_X4_, Q_X5_, Q_X8_, Q_X9_⟩ hb_ hon hoff
      refine ⟨_, rfl, fun K hK => ?_⟩
      have e37 : a.tmps[37]? = some (.agg #[.int .i64 a1_0, .int .i64 a1_1]) := by rw [ha]; exact putSel_on (e := (1, 37, .agg #[.int .i64 a1_0, .int .i64 a1_1])) 1 rfl rfl (hon 1 (by kernel_rfl)) rfl
      replace ha := Aside0.mk ha
      have HD77 := Aside0.mk Q_HD77
      refine goes_ Try.func38 (by kernel_rfl) rfl #[.agg #[.int .i64 a1_0, .int .i64 a1_1]] (by rfl) rfl rfl (by first | (simp only [List.map_toArray, List.map_cons, List.map_nil, Act.eval, Array.getD_eq_getD_getElem?, Option.getD_some, e37]; done) | (simp only [List.map_toArray, List.map_cons, List.map_nil, Act.eval, Array.getD_eq_getD_getElem?, Option.getD_some, e37]; rfl)) ?_
      with_reducible refine (laws_toAsked.calls a1_0 a1_1 r24 r25 w'  e26.out).mono ?_
      rintro e wn2_ ⟨rfl, hb⟩
      refine ⟨_, rfl, ?_⟩
      refine hK.out _ _ ⟨A7r3_0_, c7r3_0_, A7r3_6_, c7r3_6_, g7r8_, g7r9_, m3_, m4_, m5_, m8_, m9_, (by rw [ha.out]; exact putSel_upk 2 hb_ rfl rfl rfl), below_step HD77.out hb, fun h0_ => absurd ((hoff 3 (by kernel_rfl)).symm.trans h0_) (by decide), fun h0_ => absurd ((hoff 3 (by kernel_rfl)).symm.trans h0_) (by decide), fun h0_ h1_ => blk_below (Q_BZ81 h0_ h1_) hb, Q_Z83, fun h0_ h1_ => blk_below (Q_BZ84 h0_ h1_) hb, Q_Z86, fun _ h1_ => absurd ((hoff 10 (by kernel_rfl)).symm.trans h1_) (by decide), fun _ h1_ => absurd ((hoff 11 (by kernel_rfl)).symm.trans h1_) (by decide), fun h0_ => absurd ((hoff 3 (by kernel_rfl)).symm.trans h0_) (by decide), fun h0_ => absurd ((hoff 4 (by kernel_rfl)).symm.trans h0_) (by decide), fun h0_ => absurd ((hoff 5 (by kernel_rfl)).symm.trans h0_) (by decide), Q_X8_, Q_X9_⟩
    refine steps_cons ?_ ?_
    · rintro b a w' ⟨A7r3_0_, c7r3_0_, A7r3_6_, c7r3_6_, g7r8_, g7r9_, m3_, m4_, m5_, m8_, m9_, ha, Q_HD77, Q_O79, Q_O80, Q_BZ81, Q_Z83, Q_BZ84, Q_Z86, Q_BK82, Q_BK85, Q_X3_, Q_X4_, Q_X5_, Q_X8_, Q_X9_⟩ hb_ hon hoff
      refine ⟨_, rfl, fun K hK => ?_⟩
      have e36 : a.tmps[36]? = some (.agg #[.slice A65 r14.length c66, .int .i64 r15, .int .i64 r16, .int .i64 r17, .int .i64 r18, .int .i64 r19, .slice A68 r20.length c69]) := by rw [ha]; exact putSel_on (e := (0, 36, .agg #[.slice A65 r14.length c66, .int .i64 r15, .int .i64 r16, .int .i64 r17, .int .i64 r18, .int .i64 r19, .slice A68 r20.length c69])) 0 rfl rfl (hon 0 (by kernel_rfl)) rfl
      have e38 : a.tmps[38]? = some (.agg #[.int .i64 r24, .int .i64 r25]) := by rw [ha]; exact putSel_on (e := (2, 38, .agg #[.int .i64 r24, .int .i64 r25])) 2 rfl rfl (hon 2 (by kernel_rfl)) rfl
      replace ha := Aside0.mk ha
      have HD77 := Aside0.mk Q_HD77
      refine goes_ Try.func39 (by kernel_rfl) rfl #[.agg #[.slice A65 r14.length c66, .int .i64 r15, .int .i64 r16, .int .i64 r17, .int .i64 r18, .int .i64 r19, .slice A68 r20.length c69], .agg #[.int .i64 r24, .int .i64 r25]] (by rfl) rfl rfl (by first | (simp only [List.map_toArray, List.map_cons, List.map_nil, Act.eval, Array.getD_eq_getD_getElem?, Option.getD_some, e36, e38]; done) | (simp only [List.map_toArray, List.map_cons, List.map_nil, Act.eval, Array.getD_eq_getD_getElem?, Option.getD_some, e36, e38]; rfl)) ?_
      with_reducible refine (impl_Give.calls k A65 c66 r14 r15 r16 r17 r18 r19 A68 c69 r20 r24 r25 r27 r28 r29 r30 r31 r32 r33 r34 r35 r36 r37 r38 w' (Kd.S_reads' (Kd.S_below O67.out HD77.out)).2.2 (Kd.S_reads' (Kd.S_below O67.out HD77.out)).2.1 (Kd.R_reads' (Kd.R_below O70.out HD77.out)).2.2 (Kd.R_reads' (Kd.R_below O70.out HD77.out)).2.1 e78.out).mono ?_
      rintro e wn3_ ⟨v3_0, v3_6, rfl, h3_0, h3_6, hb⟩
      refine ⟨_, rfl, ?_⟩
      obtain ⟨A7r3_0_n, c7r3_0_n, rfl⟩ := Kd.S_slice h3_0
      obtain ⟨A7r3_6_n, c7r3_6_n, rfl⟩ := Kd.R_slice h3_6
      refine hK.out _ _ ⟨A7r3_0_n, c7r3_0_n, A7r3_6_n, c7r3_6_n, g7r8_, g7r9_, (.tuple #[.agg #[.slice A7r3_0_n r27.length c7r3_0_n, .int .i64 r28, .int .i64 r29, .int .i64 r30, .int .i64 r31, .int .i64 r32, .slice A7r3_6_n r33.length c7r3_6_n], .agg #[.int .i64 r34, .int .i64 r35, .int .i64 r36, .int .i64 r37], .bool r38]), m4_, m5_, m8_, m9_, (by rw [ha.out]; exact putSel_upk 3 hb_ rfl rfl rfl), below_step HD77.out hb, fun _ => Kd.S_lower (Kd.S_mono (Kd.S_bound h3_0) (fun k_ hk => trivial)) (below_size HD77.out), fun _ => Kd.R_lower (Kd.R_mono (Kd.R_bound h3_6) (fun k_ hk => trivial)) (below_size HD77.out), fun h0_ h1_ => blk_below (Q_BZ81 h0_ h1_) hb, Q_Z83, fun h0_ h1_ => blk_below (Q_BZ84 h0_ h1_) hb, Q_Z86, fun _ h1_ => absurd ((hoff 10 (by kernel_rfl)).symm.trans h1_) (by decide), fun _ h1_ => absurd ((hoff 11 (by kernel_rfl)).symm.trans h1_) (by decide), fun _ => rfl, fun h0_ => absurd ((hoff 4 (by kernel_rfl)).symm.trans h0_) (by decide), fun h0_ => absurd ((hoff 5 (by kernel_rfl)).symm.trans h0_) (by decide), Q_X8_, Q_X9_⟩
    refine steps_cons ?_ ?_
    · rintro b a w' ⟨A7r3_0_, c7r3_0_, A7r3_6_, c7r3_6_, g7r8_, g7r9_, m3_, m4_, m5_, m8_, m9_, ha, Q_HD77, Q_O79, Q_O80, Q_BZ81, Q_Z83, Q_BZ84, Q_Z86, Q_BK82, Q_BK85, Q_X3_, Q_X4_, Q_X5_, Q_X8_, Q_X9_⟩ hb_ hon hoff
      refine ⟨_, rfl, fun K hK => ?_⟩
      have e39 : a.tmps[39]? = some (m3_) := by rw [ha]; exact putSel_on (e := (3, 39, m3_)) 3 rfl rfl (hon 3 (by kernel_rfl)) rfl
      rw [Q_X3_ (hon 3 (by kernel_rfl))] at e39
      replace ha := Aside0.mk ha
      have HD77 := Aside0.mk Q_HD77
      have O79 := Aside0.mk (Q_O79 (hon 3 (by kernel_rfl)))
      have O80 := Aside0.mk (Q_O80 (hon 3 (by kernel_rfl)))
      refine value_ (w1 := w') (v := .tuple #[.agg #[.slice A7r3_0_ r27.length c7r3_0_, .int .i64 r28, .int .i64 r29, .int .i64 r30, .int .i64 r31, .int .i64 r32, .slice A7r3_6_ r33.length c7r3_6_], .agg #[.int .i64 r34, .int .i64 r35, .int .i64 r36, .int .i64 r37], .bool r38]) (by rfl) rfl ?_ ?_
      · go_simp
        (try simp only [i64_w])
        try rfl
      refine hK.out _ _ ⟨A7r3_0_, c7r3_0_, A7r3_6_, c7r3_6_, g7r8_, g7r9_, m3_, (.tuple #[.agg #[.slice A7r3_0_ r27.length c7r3_0_, .int .i64 r28, .int .i64 r29, .int .i64 r30, .int .i64 r31, .int .i64 r32, .slice A7r3_6_ r33.length c7r3_6_], .agg #[.int .i64 r34, .int .i64 r35, .int .i64 r36, .int .i64 r37], .bool r38]), m5_, m8_, m9_, (by rw [ha.out]; exact putSel_upk 4 hb_ rfl rfl rfl), Q_HD77, Q_O79, Q_O80, Q_BZ81, Q_Z83, Q_BZ84, Q_Z86, fun _ h1_ => absurd ((hoff 10 (by kernel_rfl)).symm.trans h1_) (by decide), fun _ h1_ => absurd ((hoff 11 (by kernel_rfl)).symm.trans h1_) (by decide), Q_X3_, fun _ => rfl, fun h0_ => absurd ((hoff 5 (by kernel_rfl)).symm.trans h0_) (by decide), Q_X8_, Q_X9_⟩
    refine steps_cons ?_ ?_
    · rintro b a w' ⟨A7r3_0_, c7r3_0_, A7r3_6_, c7r3_6_, g7r8_, g7r9_, m3_, m4_, m5_, m8_, m9_, ha, Q_HD77, Q_O79, Q_O80, Q_BZ81, Q_Z83, Q_BZ84, Q_Z86, Q_BK82, Q_BK85, Q_X3_, Q_X4_, Q_X5_, Q_X8_, Q_X9_⟩ hb_ hon hoff
      refine ⟨_, rfl, fun K hK => ?_⟩
      have e35 : a.tmps[35]? = some (m4_) := by rw [ha]; exact putSel_on (e := (4, 35, m4_)) 4 rfl rfl (hon 4 (by kernel_rfl)) rfl
      rw [Q_X4_ (hon 4 (by kernel_rfl))] at e35
      replace ha := Aside0.mk ha
      have HD77 := Aside0.mk Q_HD77
      have O79 := Aside0.mk (Q_O79 (hon 3 (by kernel_rfl)))
      have O80 := Aside0.mk (Q_O80 (hon 3 (by kernel_rfl)))
      refine value_ (w1 := w') (v := .agg #[.slice A7r3_0_ r27.length c7r3_0_, .int .i64 r28, .int .i64 r29, .int .i64 r30, .int .i64 r31, .int .i64 r32, .slice A7r3_6_ r33.length c7r3_6_]) (by rfl) rfl ?_ ?_
      · go_simp
        (try simp only [i64_w])
        try rfl
      refine hK.out _ _ ⟨A7r3_0_, c7r3_0_, A7r3_6_, c7r3_6_, g7r8_, g7r9_, m3_, m4_, (.agg #[.slice A7r3_0_ r27.length c7r3_0_, .int .i64 r28, .int .i64 r29, .int .i64 r30, .int .i64 r31, .int .i64 r32, .slice A7r3_6_ r33.length c7r3_6_]), m8_, m9_, (by rw [ha.out]; exact putSel_upk 5 hb_ rfl rfl rfl), Q_HD77, Q_O79, Q_O80, Q_BZ81, Q_Z83, Q_BZ84, Q_Z86, fun _ h1_ => absurd ((hoff 10 (by kernel_rfl)).symm.trans h1_) (by decide), fun _ h1_ => absurd ((hoff 11 (by kernel_rfl)).symm.trans h1_) (by decide), Q_X3_, Q_X4_, fun _ => rfl, Q_X8_, Q_X9_⟩
    refine steps_cons ?_ ?_
    · rintro b a w' ⟨A7r3_0_, c7r3_0_, A7r3_6_, c7r3_6_, g7r8_, g7r9_, m3_, m4_, m5_, m8_, m9_, ha, Q_HD77, Q_O79, Q_O80, Q_BZ81, Q_Z83, Q_BZ84, Q_Z86, Q_BK82, Q_BK85, Q_X3_, Q_X4_, Q_X5_, Q_X8_, Q_X9_⟩ hb_ hon hoff
      refine ⟨_, rfl, fun K hK => ?_⟩
      have e35 : a.tmps[35]? = some (m4_) := by rw [ha]; exact putSel_on (e := (4, 35, m4_)) 4 rfl rfl (hon 4 (by kernel_rfl)) rfl
      rw [Q_X4_ (hon 4 (by kernel_rfl))] at e35
      replace ha := Aside0.mk ha
      have HD77 := Aside0.mk Q_HD77
      have O79 := Aside0.mk (Q_O79 (hon 3 (by kernel_rfl)))
      have O80 := Aside0.mk (Q_O80 (hon 3 (by kernel_rfl)))
      refine value_ (w1 := w') (v := .agg #[.int .i64 r34, .int .i64 r35, .int .i64 r36, .int .i64 r37]) (by rfl) rfl ?_ ?_
      · go_simp
        (try simp only [i64_w])
        try rfl
      refine hK.out _ _ ⟨A7r3_0_, c7r3_0_, A7r3_6_, c7r3_6_, g7r8_, g7r9_, m3_, m4_, m5_, m8_, m9_, (by rw [ha.out]; exact putSel_upk 6 hb_ rfl rfl rfl), Q_HD77, Q_O79, Q_O80, Q_BZ81, Q_Z83, Q_BZ84, Q_Z86, Q_BK82, fun _ h1_ => absurd ((hoff 11 (by kernel_rfl)).symm.trans h1_) (by decide), Q_X3_, Q_X4_, Q_X5_, Q_X8_, Q_X9_⟩
    refine steps_cons ?_ ?_
    · rintro b a w' ⟨A7r3_0_, c7r3_0_, A7r3_6_, c7r3_6_, g7r8_, g7r9_, m3_, m4_, m5_, m8_, m9_, ha, Q_HD77, Q_O79, Q_O80, Q_BZ81, Q_Z83, Q_BZ84, Q_Z86, Q_BK82, Q_BK85, Q_X3_, Q_X4_, Q_X5_, Q_X8_, Q_X9_⟩ hb_ hon hoff
      refine ⟨_, rfl, fun K hK => ?_⟩
      have e35 : a.tmps[35]? = some (m4_) := by rw [ha]; exact putSel_on (e := (4, 35, m4_)) 4 rfl rfl (hon 4 (by kernel_rfl)) rfl
      rw [Q_X4_ (hon 4 (by kernel_rfl))] at e35
      replace ha := Aside0.mk ha
      have HD77 := Aside0.mk Q_HD77
      have O79 := Aside0.mk (Q_O79 (hon 3 (by kernel_rfl)))
      have O80 := Aside0.mk (Q_O80 (hon 3 (by kernel_rfl)))
      refine value_ (w1 := w') (v := .bool r38) (by rfl) rfl ?_ ?_
      · go_simp
        (try simp only [i64_w])
        try rfl
      refine hK.out _ _ ⟨A7r3_0_, c7r3_0_, A7r3_6_, c7r3_6_, g7r8_, g7r9_, m3_, m4_, m5_, m8_, m9_, (by rw [ha.out]; exact putSel_upk 7 hb_ rfl rfl rfl), Q_HD77, Q_O79, Q_O80, Q_BZ81, Q_Z83, Q_BZ84, Q_Z86, Q_BK82, Q_BK85, Q_X3_, Q_X4_, Q_X5_, Q_X8_, Q_X9_⟩
    refine steps_cons ?_ ?_
    · rintro b a w' ⟨A7r3_0_, c7r3_0_, A7r3_6_, c7r3_6_, g7r8_, g7r9_, m3_, m4_, m5_, m8_, m9_, ha, Q_HD77, Q_O79, Q_O80, Q_BZ81, Q_Z83, Q_BZ84, Q_Z86, Q_BK82, Q_BK85, Q_X3_, Q_X4_, Q_X5_, Q_X8_, Q_X9_⟩ hb_ hon hoff
      refine ⟨_, rfl, fun K hK => ?_⟩
      replace ha := Aside0.mk ha
      have HD77 := Aside0.mk Q_HD77
      refine box_step ?hg (N := 10) ?hd (cs := #[.slice none 0 0, .int .i64 0, .int .i64 0, .int .i64 0, .int .i64 0, .int .i64 0, .slice none 0 0]) (t := 70) ?hr ?_; (case hd => rfl); (case hg => rfl); (case hr => first | (go_simp; done) | (go_simp; rfl))
      intro g7r8_n hg wn8_ hbox hb
      refine hK.out _ _ ⟨A7r3_0_, c7r3_0_, A7r3_6_, c7r3_6_, g7r8_n, g7r9_, m3_, m4_, m5_, (.pointer (some ⟨g7r8_n, 0, none⟩)), m9_, (by rw [ha.out]; exact putSel_upk 8 hb_ rfl rfl rfl), below_step HD77.out hb, fun h0_ => Kd.S_below (Q_O79 h0_) hb, fun h0_ => Kd.R_below (Q_O80 h0_) hb, fun _ _ => hbox, fun _ => (by rw [hg]; exact below_size HD77.out), fun h0_ h1_ => blk_below (Q_BZ84 h0_ h1_) hb, Q_Z86, fun _ h1_ => absurd ((hoff 10 (by kernel_rfl)).symm.trans h1_) (by decide), fun _ h1_ => absurd ((hoff 11 (by kernel_rfl)).symm.trans h1_) (by decide), Q_X3_, Q_X4_, Q_X5_, fun _ => rfl, Q_X9_⟩
    refine steps_cons ?_ ?_
    · rintro b a w' ⟨A7r3_0_, c7r3_0_, A7r3_6_, c7r3_6_, g7r8_, g7r9_, m3_, m4_, m5_, m8_, m9_, ha, Q_HD77, Q_O79, Q_O80, Q_BZ81, Q_Z83, Q_BZ84, Q_Z86, Q_BK82, Q_BK85, Q_X3_, Q_X4_, Q_X5_, Q_X8_, Q_X9_⟩ hb_ hon hoff
      refine ⟨_, rfl, fun K hK => ?_⟩
      replace ha := Aside0.mk ha
      have HD77 := Aside0.mk Q_HD77
      refine box_step ?hg (N := 11) ?hd (cs := #[.int .i64 0, .int .i64 0, .int .i64 0, .int .i64 0]) (t := 32) ?hr ?_; (case hd => rfl); (case hg => rfl); (case hr => first | (go_simp; done) | (go_simp; rfl))
      intro g7r9_n hg wn9_ hbox hb
      refine hK.out _ _ ⟨A7r3_0_, c7r3_0_, A7r3_6_, c7r3_6_, g7r8_, g7r9_n, m3_, m4_, m5_, m8_, (.pointer (some ⟨g7r9_n, 0, none⟩)), (by rw [ha.out]; exact putSel_upk 9 hb_ rfl rfl rfl), below_step HD77.out hb, fun h0_ => Kd.S_below (Q_O79 h0_) hb, fun h0_ => Kd.R_below (Q_O80 h0_) hb, fun h0_ h1_ => blk_below (Q_BZ81 h0_ h1_) hb, Q_Z83, fun _ _ => hbox, fun _ => (by rw [hg]; exact below_size HD77.out), fun _ h1_ => absurd ((hoff 10 (by kernel_rfl)).symm.trans h1_) (by decide), fun _ h1_ => absurd ((hoff 11 (by kernel_rfl)).symm.trans h1_) (by decide), Q_X3_, Q_X4_, Q_X5_, Q_X8_, fun _ => rfl⟩
    refine steps_cons ?_ ?_
    · rintro b a w' ⟨A7r3_0_, c7r3_0_, A7r3_6_, c7r3_6_, g7r8_, g7r9_, m3_, m4_, m5_, m8_, m9_, ha, Q_HD77, Q_O79, Q_O80, Q_BZ81, Q_Z83, Q_BZ84, Q_Z86, Q_BK82, Q_BK85, Q_X3_, Q_X4_, Q_X5_, Q_X8_, Q_X9_⟩ hb_ hon hoff
      refine ⟨_, rfl, fun K hK => ?_⟩
      have e10 : a.tmps[10]? = some (m8_) := by rw [ha]; exact putSel_on (e := (8, 10, m8_)) 8 rfl rfl (hon 8 (by kernel_rfl)) rfl
      rw [Q_X8_ (hon 8 (by kernel_rfl))] at e10
      have e40 : a.tmps[40]? = some (m5_) := by rw [ha]; exact putSel_on (e := (5, 40, m5_)) 5 rfl rfl (hon 5 (by kernel_rfl)) rfl
      rw [Q_X5_ (hon 5 (by kernel_rfl))] at e40
      replace ha := Aside0.mk ha
      have HD77 := Aside0.mk Q_HD77
      have O79 := Aside0.mk (Q_O79 (hon 3 (by kernel_rfl)))
      have O80 := Aside0.mk (Q_O80 (hon 3 (by kernel_rfl)))
      have BZ81 := Aside0.mk (Q_BZ81 (hon 8 (by kernel_rfl)) hb_)
      have Z83 := Aside0.mk (Q_Z83 (hon 8 (by kernel_rfl)))
      have BZ84 := Aside0.mk (Q_BZ84 (hon 9 (by kernel_rfl)) (hoff 11 (by kernel_rfl)))
      have Z86 := Aside0.mk (Q_Z86 (hon 9 (by kernel_rfl)))
      have hs0_ : w'.cell? ⟨g7r8_, 0, none⟩ = some (.slice none 0 0) := (blk_cell BZ81.out 0).trans rfl
      have hf0_ := blk_frozen BZ81.out 0
      have hs1_ : w'.cell? ⟨g7r8_, 1, none⟩ = some (.int .i64 0) := (blk_cell BZ81.out 1).trans rfl
      have hf1_ := blk_frozen BZ81.out 1
      have hs2_ : w'.cell? ⟨g7r8_, 2, none⟩ = some (.int .i64 0) := (blk_cell BZ81.out 2).trans rfl
      have hf2_ := blk_frozen BZ81.out 2
      have hs3_ : w'.cell? ⟨g7r8_, 3, none⟩ = some (.int .i64 0) := (blk_cell BZ81.out 3).trans rfl
      have hf3_ := blk_frozen BZ81.out 3
      have hs4_ : w'.cell? ⟨g7r8_, 4, none⟩ = some (.int .i64 0) := (blk_cell BZ81.out 4).trans rfl
      have hf4_ := blk_frozen BZ81.out 4
      have hs5_ : w'.cell? ⟨g7r8_, 5, none⟩ = some (.int .i64 0) := (blk_cell BZ81.out 5).trans rfl
      have hf5_ := blk_frozen BZ81.out 5
      have hs6_ : w'.cell? ⟨g7r8_, 6, none⟩ = some (.slice none 0 0) := (blk_cell BZ81.out 6).trans rfl
      have hf6_ := blk_frozen BZ81.out 6
      have hl_ := blk_lt BZ81.out
      refine skip_ (w1 := ?_) (by rfl) rfl ?_ ?_
      rotate_left
      · go_simp
        rfl
      have hnew_ : ((World.setCell (World.setCell (World.setCell (World.setCell (World.setCell (World.setCell (World.setCell w' ⟨g7r8_, 0, none⟩ (.slice A7r3_0_ r27.length c7r3_0_)) ⟨g7r8_, 1, none⟩ (.int .i64 r28)) ⟨g7r8_, 2, none⟩ (.int .i64 r29)) ⟨g7r8_, 3, none⟩ (.int .i64 r30)) ⟨g7r8_, 4, none⟩ (.int .i64 r31)) ⟨g7r8_, 5, none⟩ (.int .i64 r32)) ⟨g7r8_, 6, none⟩ (.slice A7r3_6_ r33.length c7r3_6_))).heap[g7r8_]? = some (.cells #[.slice A7r3_0_ r27.length c7r3_0_, .int .i64 r28, .int .i64 r29, .int .i64 r30, .int .i64 r31, .int .i64 r32, .slice A7r3_6_ r33.length c7r3_6_] 70 (0, 0)) := (blk_put (cs := #[.slice A7r3_0_ r27.length c7r3_0_, .int .i64 r28, .int .i64 r29, .int .i64 r30, .int .i64 r31, .int .i64 r32, .slice none 0 0]) (cs' := #[.slice A7r3_0_ r27.length c7r3_0_, .int .i64 r28, .int .i64 r29, .int .i64 r30, .int .i64 r31, .int .i64 r32, .slice A7r3_6_ r33.length c7r3_6_]) (blk_put (cs := #[.slice A7r3_0_ r27.length c7r3_0_, .int .i64 r28, .int .i64 r29, .int .i64 r30, .int .i64 r31, .int .i64 0, .slice none 0 0]) (cs' := #[.slice A7r3_0_ r27.length c7r3_0_, .int .i64 r28, .int .i64 r29, .int .i64 r30, .int .i64 r31, .int .i64 r32, .slice none 0 0]) (blk_put (cs := #[.slice A7r3_0_ r27.length c7r3_0_, .int .i64 r28, .int .i64 r29, .int .i64 r30, .int .i64 0, .int .i64 0, .slice none 0 0]) (cs' := #[.slice A7r3_0_ r27.length c7r3_0_, .int .i64 r28, .int .i64 r29, .int .i64 r30, .int .i64 r31, .int .i64 0, .slice none 0 0]) (blk_put (cs := #[.slice A7r3_0_ r27.length c7r3_0_, .int .i64 r28, .int .i64 r29, .int .i64 0, .int .i64 0, .int .i64 0, .slice none 0 0]) (cs' := #[.slice A7r3_0_ r27.length c7r3_0_, .int .i64 r28, .int .i64 r29, .int .i64 r30, .int .i64 0, .int .i64 0, .slice none 0 0]) (blk_put (cs := #[.slice A7r3_0_ r27.length c7r3_0_, .int .i64 r28, .int .i64 0, .int .i64 0, .int .i64 0, .int .i64 0, .slice none 0 0]) (cs' := #[.slice A7r3_0_ r27.length c7r3_0_, .int .i64 r28, .int .i64 r29, .int .i64 0, .int .i64 0, .int .i64 0, .slice none 0 0]) (blk_put (cs := #[.slice A7r3_0_ r27.length c7r3_0_, .int .i64 0, .int .i64 0, .int .i64 0, .int .i64 0, .int .i64 0, .slice none 0 0]) (cs' := #[.slice A7r3_0_ r27.length c7r3_0_, .int .i64 r28, .int .i64 0, .int .i64 0, .int .i64 0, .int .i64 0, .slice none 0 0]) (blk_put (cs := #[.slice none 0 0, .int .i64 0, .int .i64 0, .int .i64 0, .int .i64 0, .int .i64 0, .slice none 0 0]) (cs' := #[.slice A7r3_0_ r27.length c7r3_0_, .int .i64 0, .int .i64 0, .int .i64 0, .int .i64 0, .int .i64 0, .slice none 0 0]) BZ81.out 0 (.slice A7r3_0_ r27.length c7r3_0_) rfl) 1 (.int .i64 r28) rfl) 2 (.int .i64 r29) rfl) 3 (.int .i64 r30) rfl) 4 (.int .i64 r31) rfl) 5 (.int .i64 r32) rfl) 6 (.slice A7r3_6_ r33.length c7r3_6_) rfl)
      have hg_ : w'.grownBy (World.setCell (World.setCell (World.setCell (World.setCell (World.setCell (World.setCell (World.setCell w' ⟨g7r8_, 0, none⟩ (.slice A7r3_0_ r27.length c7r3_0_)) ⟨g7r8_, 1, none⟩ (.int .i64 r28)) ⟨g7r8_, 2, none⟩ (.int .i64 r29)) ⟨g7r8_, 3, none⟩ (.int .i64 r30)) ⟨g7r8_, 4, none⟩ (.int .i64 r31)) ⟨g7r8_, 5, none⟩ (.int .i64 r32)) ⟨g7r8_, 6, none⟩ (.slice A7r3_6_ r33.length c7r3_6_)) (some g7r8_) := grown_set_ (grown_set_ (grown_set_ (grown_set_ (grown_set_ (grown_set_ (grown_set_ (World.grownBy.refl _ _) _ _) _ _) _ _) _ _) _ _) _ _) _ _
      generalize (World.setCell (World.setCell (World.setCell (World.setCell (World.setCell (World.setCell (World.setCell w' ⟨g7r8_, 0, none⟩ (.slice A7r3_0_ r27.length c7r3_0_)) ⟨g7r8_, 1, none⟩ (.int .i64 r28)) ⟨g7r8_, 2, none⟩ (.int .i64 r29)) ⟨g7r8_, 3, none⟩ (.int .i64 r30)) ⟨g7r8_, 4, none⟩ (.int .i64 r31)) ⟨g7r8_, 5, none⟩ (.int .i64 r32)) ⟨g7r8_, 6, none⟩ (.slice A7r3_6_ r33.length c7r3_6_)) = wn10_ at hnew_ hg_ ⊢
      refine hK.out _ _ ⟨A7r3_0_, c7r3_0_, A7r3_6_, c7r3_6_, g7r8_, g7r9_, m3_, m4_, m5_, m8_, m9_, (by rw [ha.out]; exact putSel_none (v := undef) rfl), below_grown_ HD77.out hg_ Z83.out, fun _ => Kd.S_mono (Kd.S_grown (Kd.S_types O79.out BZ81.out (by decide)) hg_ (fun k_ hk_ e_ => hk_.2 (Option.some.inj e_))) (fun _ h_ => h_.1), fun _ => Kd.R_mono (Kd.R_grown (Kd.R_types O80.out BZ81.out (by decide)) hg_ (fun k_ hk_ e_ => hk_.2 (Option.some.inj e_))) (fun _ h_ => h_.1), fun _ h1_ => absurd ((up_self b 10).symm.trans h1_) (by decide), Q_Z83, fun _ _ => blk_grown BZ84.out hg_ (fun e_ => Blk_ne BZ84.out BZ81.out (by decide) (Option.some.inj e_)), Q_Z86, fun _ _ => hnew_, fun _ h1_ => absurd ((hoff 11 (by kernel_rfl)).symm.trans h1_) (by decide), Q_X3_, Q_X4_, Q_X5_, Q_X8_, Q_X9_⟩
    refine steps_cons ?_ ?_
    · rintro b a w' ⟨A7r3_0_, c7r3_0_, A7r3_6_, c7r3_6_, g7r8_, g7r9_, m3_, m4_, m5_, m8_, m9_, ha, Q_HD77, Q_O79, Q_O80, Q_BZ81, Q_Z83, Q_BZ84, Q_Z86, Q_BK82, Q_BK85, Q_X3_, Q_X4_, Q_X5_, Q_X8_, Q_X9_⟩ hb_ hon hoff
      refine ⟨_, rfl, fun K hK => ?_⟩
      have e11 : a.tmps[11]? = some (m9_) := by rw [ha]; exact putSel_on (e := (9, 11, m9_)) 9 rfl rfl (hon 9 (by kernel_rfl)) rfl
      rw [Q_X9_ (hon 9 (by kernel_rfl))] at e11
      have e41 : a.tmps[41]? = some (.agg #[.int .i64 r34, .int .i64 r35, .int .i64 r36, .int .i64 r37]) := by rw [ha]; exact putSel_on (e := (6, 41, .agg #[.int .i64 r34, .int .i64 r35, .int .i64 r36, .int .i64 r37])) 6 rfl rfl (hon 6 (by kernel_rfl)) rfl
      replace ha := Aside0.mk ha
      have HD77 := Aside0.mk Q_HD77
      have O79 := Aside0.mk (Q_O79 (hon 3 (by kernel_rfl)))
      have O80 := Aside0.mk (Q_O80 (hon 3 (by kernel_rfl)))
      have Z83 := Aside0.mk (Q_Z83 (hon 8 (by kernel_rfl)))
      have BZ84 := Aside0.mk (Q_BZ84 (hon 9 (by kernel_rfl)) hb_)
      have Z86 := Aside0.mk (Q_Z86 (hon 9 (by kernel_rfl)))
      have BK82 := Aside0.mk (Q_BK82 (hon 8 (by kernel_rfl)) (hon 10 (by kernel_rfl)))
      have hs0_ : w'.cell? ⟨g7r9_, 0, none⟩ = some (.int .i64 0) := (blk_cell BZ84.out 0).trans rfl
      have hf0_ := blk_frozen BZ84.out 0
      have hs1_ : w'.cell? ⟨g7r9_, 1, none⟩ = some (.int .i64 0) := (blk_cell BZ84.out 1).trans rfl
      have hf1_ := blk_frozen BZ84.out 1
      have hs2_ : w'.cell? ⟨g7r9_, 2, none⟩ = some (.int .i64 0) := (blk_cell BZ84.out 2).trans rfl
      have hf2_ := blk_frozen BZ84.out 2
      have hs3_ : w'.cell? ⟨g7r9_, 3, none⟩ = some (.int .i64 0) := (blk_cell BZ84.out 3).trans rfl
      have hf3_ := blk_frozen BZ84.out 3
      have hl_ := blk_lt BZ84.out
      refine skip_ (w1 := ?_) (by rfl) rfl ?_ ?_
      rotate_left
      · go_simp
        rfl
      have hnew_ : ((World.setCell (World.setCell (World.setCell (World.setCell w' ⟨g7r9_, 0, none⟩ (.int .i64 r34)) ⟨g7r9_, 1, none⟩ (.int .i64 r35)) ⟨g7r9_, 2, none⟩ (.int .i64 r36)) ⟨g7r9_, 3, none⟩ (.int .i64 r37))).heap[g7r9_]? = some (.cells #[.int .i64 r34, .int .i64 r35, .int .i64 r36, .int .i64 r37] 32 (0, 0)) := (blk_put (cs := #[.int .i64 r34, .int .i64 r35, .int .i64 r36, .int .i64 0]) (cs' := #[.int .i64 r34, .int .i64 r35, .int .i64 r36, .int .i64 r37]) (blk_put (cs := #[.int .i64 r34, .int .i64 r35, .int .i64 0, .int .i64 0]) (cs' := #[.int .i64 r34, .int .i64 r35, .int .i64 r36, .int .i64 0]) (blk_put (cs := #[.int .i64 r34, .int .i64 0, .int .i64 0, .int .i64 0]) (cs' := #[.int .i64 r34, .int .i64 r35, .int .i64 0, .int .i64 0]) (blk_put (cs := #[.int .i64 0, .int .i64 0, .int .i64 0, .int .i64 0]) (cs' := #[.int .i64 r34, .int .i64 0, .int .i64 0, .int .i64 0]) BZ84.out 0 (.int .i64 r34) rfl) 1 (.int .i64 r35) rfl) 2 (.int .i64 r36) rfl) 3 (.int .i64 r37) rfl)
      have hg_ : w'.grownBy (World.setCell (World.setCell (World.setCell (World.setCell w' ⟨g7r9_, 0, none⟩ (.int .i64 r34)) ⟨g7r9_, 1, none⟩ (.int .i64 r35)) ⟨g7r9_, 2, none⟩ (.int .i64 r36)) ⟨g7r9_, 3, none⟩ (.int .i64 r37)) (some g7r9_) := grown_set_ (grown_set_ (grown_set_ (grown_set_ (World.grownBy.refl _ _) _ _) _ _) _ _) _ _
      generalize (World.setCell (World.setCell (World.setCell (World.setCell w' ⟨g7r9_, 0, none⟩ (.int .i64 r34)) ⟨g7r9_, 1, none⟩ (.int .i64 r35)) ⟨g7r9_, 2, none⟩ (.int .i64 r36)) ⟨g7r9_, 3, none⟩ (.int .i64 r37)) = wn11_ at hnew_ hg_ ⊢
      refine hK.out _ _ ⟨A7r3_0_, c7r3_0_, A7r3_6_, c7r3_6_, g7r8_, g7r9_, m3_, m4_, m5_, m8_, m9_, (by rw [ha.out]; exact putSel_none (v := undef) rfl), below_grown_ HD77.out hg_ Z86.out, fun _ => Kd.S_mono (Kd.S_grown (Kd.S_types O79.out BZ84.out (by decide)) hg_ (fun k_ hk_ e_ => hk_.2 (Option.some.inj e_))) (fun _ h_ => h_.1), fun _ => Kd.R_mono (Kd.R_grown (Kd.R_types O80.out BZ84.out (by decide)) hg_ (fun k_ hk_ e_ => hk_.2 (Option.some.inj e_))) (fun _ h_ => h_.1), fun _ h1_ => absurd ((hon 10 (by kernel_rfl)).symm.trans h1_) (by decide), Q_Z83, fun _ h1_ => absurd ((up_self b 11).symm.trans h1_) (by decide), Q_Z86, fun _ _ => blk_grown BK82.out hg_ (fun e_ => Blk_ne BK82.out BZ84.out (by decide) (Option.some.inj e_)), fun _ _ => hnew_, Q_X3_, Q_X4_, Q_X5_, Q_X8_, Q_X9_⟩
    refine steps_cons ?_ ?_
    · rintro b a w' ⟨A7r3_0_, c7r3_0_, A7r3_6_, c7r3_6_, g7r8_, g7r9_, m3_, m4_, m5_, m8_, m9_, ha, Q_HD77, Q_O79, Q_O80, Q_BZ81, Q_Z83, Q_BZ84, Q_Z86, Q_BK82, Q_BK85, Q_X3_, Q_X4_, Q_X5_, Q_X8_, Q_X9_⟩ hb_ hon hoff
      refine ⟨_, rfl, fun K hK => ?_⟩
      have e42 : a.tmps[42]? = some (.bool r38) := by rw [ha]; exact putSel_on (e := (7, 42, .bool r38)) 7 rfl rfl (hon 7 (by kernel_rfl)) rfl
      replace ha := Aside0.mk ha
      have HD77 := Aside0.mk Q_HD77
      have O79 := Aside0.mk (Q_O79 (hon 3 (by kernel_rfl)))
      have O80 := Aside0.mk (Q_O80 (hon 3 (by kernel_rfl)))
      have Z83 := Aside0.mk (Q_Z83 (hon 8 (by kernel_rfl)))
      have Z86 := Aside0.mk (Q_Z86 (hon 9 (by kernel_rfl)))
      have BK82 := Aside0.mk (Q_BK82 (hon 8 (by kernel_rfl)) (hon 10 (by kernel_rfl)))
      have BK85 := Aside0.mk (Q_BK85 (hon 9 (by kernel_rfl)) (hon 11 (by kernel_rfl)))
      refine value_ (w1 := w') (v := .bool r38) (by rfl) rfl ?_ ?_
      · go_simp
        (try simp only [i64_w])
        try rfl
      refine hK.out _ _ ⟨A7r3_0_, c7r3_0_, A7r3_6_, c7r3_6_, g7r8_, g7r9_, m3_, m4_, m5_, m8_, m9_, (by rw [ha.out]; exact putSel_upk 10 hb_ rfl rfl rfl), Q_HD77, Q_O79, Q_O80, fun _ h1_ => absurd ((hon 10 (by kernel_rfl)).symm.trans h1_) (by decide), Q_Z83, fun _ h1_ => absurd ((hon 11 (by kernel_rfl)).symm.trans h1_) (by decide), Q_Z86, Q_BK82, Q_BK85, Q_X3_, Q_X4_, Q_X5_, Q_X8_, Q_X9_⟩
    exact steps_nil
  rintro b a w87 hall ⟨A7r3_0_, c7r3_0_, A7r3_6_, c7r3_6_, g7r8_, g7r9_, m3_, m4_, m5_, m8_, m9_, ha, Q_HD77, Q_O79, Q_O80, Q_BZ81, Q_Z83, Q_BZ84, Q_Z86, Q_BK82, Q_BK85, Q_X3_, Q_X4_, Q_X5_, Q_X8_, Q_X9_⟩
  clear HD77
  have hb0_ := hall 0 (by kernel_rfl)
  have hb1_ := hall 1 (by kernel_rfl)
  have hb2_ := hall 2 (by kernel_rfl)
  have hb3_ := hall 3 (by kernel_rfl)
  have hb4_ := hall 4 (by kernel_rfl)
  have hb5_ := hall 5 (by kernel_rfl)
  have hb6_ := hall 6 (by kernel_rfl)
  have hb7_ := hall 7 (by kernel_rfl)
  have hb8_ := hall 8 (by kernel_rfl)
  have hb9_ := hall 9 (by kernel_rfl)
  have hb10_ := hall 10 (by kernel_rfl)
  have hb11_ := hall 11 (by kernel_rfl)
  have hb12_ := hall 12 (by kernel_rfl)
  subst ha
  obtain rfl := Q_X3_ hb3_
  obtain rfl := Q_X4_ hb4_
  obtain rfl := Q_X5_ hb5_
  obtain rfl := Q_X8_ hb8_
  obtain rfl := Q_X9_ hb9_
  simp only [putSel, hb0_, hb1_, hb2_, hb3_, hb4_, hb5_, hb6_, hb7_, hb8_, hb9_, hb10_, hb11_, hb12_, if_true, Act.put, List.setIfInBounds_toArray, List.set_cons_zero, List.set_cons_succ]
  have HD77 := Aside0.mk Q_HD77
  clear Q_HD77
  have O79 := Aside0.mk (Q_O79 hb3_)
  clear Q_O79
  have O80 := Aside0.mk (Q_O80 hb3_)
  clear Q_O80
  clear Q_BZ81
  have Z83 := Aside0.mk (Q_Z83 hb8_)
  clear Q_Z83
  clear Q_BZ84
  have Z86 := Aside0.mk (Q_Z86 hb9_)
  clear Q_Z86
  have BK82 := Aside0.mk (Q_BK82 hb8_ hb10_)
  clear Q_BK82
  have BK85 := Aside0.mk (Q_BK85 hb9_ hb11_)
  clear Q_BK85
  clear hall hb0_ hb1_ hb2_ hb3_ hb4_ hb5_ hb6_ hb7_ hb8_ hb9_ hb10_ hb11_ hb12_
  replace BK1 := Aside0.mk (blk_below BK1.out HD77.out)
  replace BK2 := Aside0.mk (blk_below BK2.out HD77.out)
  replace O40 := Aside0.mk (Kd.S_below O40.out HD77.out)
  replace O41 := Aside0.mk (Kd.R_below O41.out HD77.out)
  replace BK43 := Aside0.mk (blk_below BK43.out HD77.out)
  replace BK46 := Aside0.mk (blk_below BK46.out HD77.out)
  replace O67 := Aside0.mk (Kd.S_below O67.out HD77.out)
  replace O70 := Aside0.mk (Kd.R_below O70.out HD77.out)
  replace BK72 := Aside0.mk (blk_below BK72.out HD77.out)
  replace O79 := Aside0.mk (show Kd.S (Kd.slice 5 (Kd.int .u8)) 29 w87 w.heap.size (Seg w75.heap.size w87.heap.size w87 [29, 5]) (.slice A7r3_0_ r27.length c7r3_0_) r27 from Kd.S_lower (Kd.S_mono (Kd.S_bound O79.out) (fun k_ hk => ⟨hk.2.1, hk.2.2.1, hk.2.2.2⟩)) (below_size HB.out))
  replace O80 := Aside0.mk (show Kd.R (Kd.int .i64) 3 w87 w.heap.size (Seg w75.heap.size w87.heap.size w87 [3]) (.slice A7r3_6_ r33.length c7r3_6_) r33 from Kd.R_lower (Kd.R_mono (Kd.R_bound O80.out) (fun k_ hk => ⟨hk.2.1, hk.2.2.1, hk.2.2.2⟩)) (below_size HB.out))
  replace HB := Aside0.mk (below_step HB.out HD77.out)
  have Z88 := Aside0.mk (below_size HD77.out)
  clear HD77
  have Z89 := Aside0.mk (blk_lt BK82.out)
  have NS90 := Aside0.mk (show ¬ Seg w75.heap.size w87.heap.size w87 [29, 5] g7r8_ from fun hs_ => Ty_not hs_.2.2 BK82.out (by decide))
  have NS91 := Aside0.mk (show ¬ Seg w75.heap.size w87.heap.size w87 [3] g7r8_ from fun hs_ => Ty_not hs_.2.2 BK82.out (by decide))
  have Z92 := Aside0.mk (blk_lt BK85.out)
  have NS93 := Aside0.mk (show ¬ Seg w75.heap.size w87.heap.size w87 [29, 5] g7r9_ from fun hs_ => Ty_not hs_.2.2 BK85.out (by decide))
  have NS94 := Aside0.mk (show ¬ Seg w75.heap.size w87.heap.size w87 [3] g7r9_ from fun hs_ => Ty_not hs_.2.2 BK85.out (by decide))
  have hz95 : w87.cell? ⟨g7r8_, 0, none⟩ = some (.slice A7r3_0_ r27.length c7r3_0_) := (blk_cell BK82.out 0).trans rfl
  have hz96 : w87.cell? ⟨g7r8_, 1, none⟩ = some (.int .i64 r28) := (blk_cell BK82.out 1).trans rfl
  have hz97 : w87.cell? ⟨g7r8_, 2, none⟩ = some (.int .i64 r29) := (blk_cell BK82.out 2).trans rfl
  have hz98 : w87.cell? ⟨g7r8_, 3, none⟩ = some (.int .i64 r30) := (blk_cell BK82.out 3).trans rfl
  have hz99 : w87.cell? ⟨g7r8_, 4, none⟩ = some (.int .i64 r31) := (blk_cell BK82.out 4).trans rfl
  have hz100 : w87.cell? ⟨g7r8_, 5, none⟩ = some (.int .i64 r32) := (blk_cell BK82.out 5).trans rfl
  have hz101 : w87.cell? ⟨g7r8_, 6, none⟩ = some (.slice A7r3_6_ r33.length c7r3_6_) := (blk_cell BK82.out 6).trans rfl
  have hl102 : g7r8_ < w87.heap.size := blk_lt BK82.out
  have hz103 : w87.cell? ⟨g5r9_, 0, none⟩ = some (.slice A5r4_0_ r27.length c5r4_0_) := (blk_cell BK43.out 0).trans rfl
  have hz104 : w87.cell? ⟨g5r9_, 1, none⟩ = some (.int .i64 r28) := (blk_cell BK43.out 1).trans rfl
  have hz105 : w87.cell? ⟨g5r9_, 2, none⟩ = some (.int .i64 r29) := (blk_cell BK43.out 2).trans rfl
  have hz106 : w87.cell? ⟨g5r9_, 3, none⟩ = some (.int .i64 r30) := (blk_cell BK43.out 3).trans rfl
  have hz107 : w87.cell? ⟨g5r9_, 4, none⟩ = some (.int .i64 r31) := (blk_cell BK43.out 4).trans rfl
  have hz108 : w87.cell? ⟨g5r9_, 5, none⟩ = some (.int .i64 r32) := (blk_cell BK43.out 5).trans rfl
  have hz109 : w87.cell? ⟨g5r9_, 6, none⟩ = some (.slice A5r4_6_ r33.length c5r4_6_) := (blk_cell BK43.out 6).trans rfl
  have hl110 : g5r9_ < w87.heap.size := blk_lt BK43.out
  go_wp2_with fail
  clear hz95 hz96 hz97 hz98 hz99 hz100 hz101 hl102 hz103 hz104 hz105 hz106 hz107 hz108 hz109 hl110
  refine (laws_eqArena.calls k A7r3_0_ c7r3_0_ r27 r28 r29 r30 r31 r32 A7r3_6_ c7r3_6_ r33 A5r4_0_ c5r4_0_ r27 r28 r29 r30 r31 r32 A5r4_6_ c5r4_6_ r33 true w87 (Kd.S_reads' O79.out).2.2 (Kd.S_reads' O79.out).2.1 (Kd.R_reads' O80.out).2.2 (Kd.R_reads' O80.out).2.1 (Kd.S_reads' O40.out).2.2 (Kd.S_reads' O40.out).2.1 (Kd.R_reads' O41.out).2.2 (Kd.R_reads' O41.out).2.1 e112.out).mono ?_
  rintro e w111 ⟨rfl, hb⟩
  replace BK1 := Aside0.mk (blk_below BK1.out hb)
  replace BK2 := Aside0.mk (blk_below BK2.out hb)
  replace O40 := Aside0.mk (Kd.S_below O40.out hb)
  replace O41 := Aside0.mk (Kd.R_below O41.out hb)
  replace BK43 := Aside0.mk (blk_below BK43.out hb)
  replace BK46 := Aside0.mk (blk_below BK46.out hb)
  replace O67 := Aside0.mk (Kd.S_below O67.out hb)
  replace O70 := Aside0.mk (Kd.R_below O70.out hb)
  replace BK72 := Aside0.mk (blk_below BK72.out hb)
  replace O79 := Aside0.mk (Kd.S_below O79.out hb)
  replace O80 := Aside0.mk (Kd.R_below O80.out hb)
  replace BK82 := Aside0.mk (blk_below BK82.out hb)
  replace BK85 := Aside0.mk (blk_below BK85.out hb)
  have Z113 := Aside0.mk (below_size hb)
  replace HB := Aside0.mk (below_step HB.out hb)
  clear hb 
  have hz114 : w111.cell? ⟨g7r9_, 0, none⟩ = some (.int .i64 r34) := (blk_cell BK85.out 0).trans rfl
  have hz115 : w111.cell? ⟨g7r9_, 1, none⟩ = some (.int .i64 r35) := (blk_cell BK85.out 1).trans rfl
  have hz116 : w111.cell? ⟨g7r9_, 2, none⟩ = some (.int .i64 r36) := (blk_cell BK85.out 2).trans rfl
  have hz117 : w111.cell? ⟨g7r9_, 3, none⟩ = some (.int .i64 r37) := (blk_cell BK85.out 3).trans rfl
  have hl118 : g7r9_ < w111.heap.size := blk_lt BK85.out
  have hz119 : w111.cell? ⟨g5r10_, 0, none⟩ = some (.int .i64 r34) := (blk_cell BK46.out 0).trans rfl
  have hz120 : w111.cell? ⟨g5r10_, 1, none⟩ = some (.int .i64 r35) := (blk_cell BK46.out 1).trans rfl
  have hz121 : w111.cell? ⟨g5r10_, 2, none⟩ = some (.int .i64 r36) := (blk_cell BK46.out 2).trans rfl
  have hz122 : w111.cell? ⟨g5r10_, 3, none⟩ = some (.int .i64 r37) := (blk_cell BK46.out 3).trans rfl
  have hl123 : g5r10_ < w111.heap.size := blk_lt BK46.out
  go_wp2_with fail
  clear hz114 hz115 hz116 hz117 hl118 hz119 hz120 hz121 hz122 hl123
  refine (laws_eqWindow.calls r34 r35 r36 r37 r34 r35 r36 r37 true w111  e125.out).mono ?_
  rintro e w124 ⟨rfl, hb⟩
  replace BK1 := Aside0.mk (blk_below BK1.out hb)
  replace BK2 := Aside0.mk (blk_below BK2.out hb)
  replace O40 := Aside0.mk (Kd.S_below O40.out hb)
  replace O41 := Aside0.mk (Kd.R_below O41.out hb)
  replace BK43 := Aside0.mk (blk_below BK43.out hb)
  replace BK46 := Aside0.mk (blk_below BK46.out hb)
  replace O67 := Aside0.mk (Kd.S_below O67.out hb)
  replace O70 := Aside0.mk (Kd.R_below O70.out hb)
  replace BK72 := Aside0.mk (blk_below BK72.out hb)
  replace O79 := Aside0.mk (Kd.S_below O79.out hb)
  replace O80 := Aside0.mk (Kd.R_below O80.out hb)
  replace BK82 := Aside0.mk (blk_below BK82.out hb)
  replace BK85 := Aside0.mk (blk_below BK85.out hb)
  have Z126 := Aside0.mk (below_size hb)
  replace HB := Aside0.mk (below_step HB.out hb)
  clear hb 
  go_wp2_with fail
  refine start_ (n := 5) (S := fun w' => w'.cell? ⟨w64.heap.size, 0, none⟩ = some (.slice A65 r14.length c66) ∧ w'.cell? ⟨w64.heap.size, 1, none⟩ = some (.int .i64 r15) ∧ w'.cell? ⟨w64.heap.size, 2, none⟩ = some (.int .i64 r16) ∧ w'.cell? ⟨w64.heap.size, 3, none⟩ = some (.int .i64 r17) ∧ w'.cell? ⟨w64.heap.size, 4, none⟩ = some (.int .i64 r18) ∧ w'.cell? ⟨w64.heap.size, 5, none⟩ = some (.int .i64 r19) ∧ w'.cell? ⟨w64.heap.size, 6, none⟩ = some (.slice A68 r20.length c69) ∧ w'.cell? ⟨w.heap.size, 0, none⟩ = some (.slice A0_0 l0_0.length c0_0) ∧ w'.cell? ⟨w.heap.size, 1, none⟩ = some (.int .i64 a0_1) ∧ w'.cell? ⟨w.heap.size, 2, none⟩ = some (.int .i64 a0_2) ∧ w'.cell? ⟨w.heap.size, 3, none⟩ = some (.int .i64 a0_3) ∧ w'.cell? ⟨w.heap.size, 4, none⟩ = some (.int .i64 a0_4) ∧ w'.cell? ⟨w.heap.size, 5, none⟩ = some (.int .i64 a0_5) ∧ w'.cell? ⟨w.heap.size, 6, none⟩ = some (.slice A0_6 l0_6.length c0_6)) (ds := []) #[false, false, false, false, false] (by kernel_rfl) rfl rfl ⟨(blk_cell BK72.out 0).trans rfl, (blk_cell BK72.out 1).trans rfl, (blk_cell BK72.out 2).trans rfl, (blk_cell BK72.out 3).trans rfl, (blk_cell BK72.out 4).trans rfl, (blk_cell BK72.out 5).trans rfl, (blk_cell BK72.out 6).trans rfl, (blk_cell BK1.out 0).trans rfl, (blk_cell BK1.out 1).trans rfl, (blk_cell BK1.out 2).trans rfl, (blk_cell BK1.out 3).trans rfl, (blk_cell BK1.out 4).trans rfl, (blk_cell BK1.out 5).trans rfl, (blk_cell BK1.out 6).trans rfl⟩ (fun hHeld => ?_)
  replace BK1 := Aside0.mk (blk_drew BK1.out)
  replace BK2 := Aside0.mk (blk_drew BK2.out)
  replace O40 := Aside0.mk (Kd.S_drew O40.out)
  replace O41 := Aside0.mk (Kd.R_drew O41.out)
  replace BK43 := Aside0.mk (blk_drew BK43.out)
  replace BK46 := Aside0.mk (blk_drew BK46.out)
  replace O67 := Aside0.mk (Kd.S_drew O67.out)
  replace O70 := Aside0.mk (Kd.R_drew O70.out)
  replace BK72 := Aside0.mk (blk_drew BK72.out)
  replace O79 := Aside0.mk (Kd.S_drew O79.out)
  replace O80 := Aside0.mk (Kd.R_drew O80.out)
  replace BK82 := Aside0.mk (blk_drew BK82.out)
  replace BK85 := Aside0.mk (blk_drew BK85.out)
  replace HB := Aside0.mk (below_drew1 HB.out)
  have Z128 := Aside0.mk (show w124.heap.size ≤ w124.drew.heap.size from Nat.le_refl _)
  generalize w124.drew = w127 at BK1 BK2 O40 O41 BK43 BK46 O67 O70 BK72 O79 O80 BK82 BK85 HB Z128 hHeld ⊢
  refine take_ (i := 0) (N := some 58) (v := ?_) (a' := ?_) #[true, false, false, false, false] rfl rfl (by kernel_rfl) (fun _ _ _ h => h) (Or.inl ⟨by rfl, ?_⟩) hHeld ?_ ?_
  rotate_left
  · rintro w' ⟨s0, s1, s2, s3, s4, s5, s6, s7, s8, s9, s10, s11, s12, s13⟩
    go_simp
    with_reducible rfl
  rotate_left
  · simp only [Act.put, List.setIfInBounds_toArray, List.set_cons_zero, List.set_cons_succ, i64_w, i32_w]
    rfl
  refine take_ (i := 1) (N := some 59) (v := ?_) (a' := ?_) #[true, true, false, false, false] rfl rfl (by kernel_rfl) (fun _ _ _ h => h) (Or.inl ⟨by rfl, ?_⟩) hHeld ?_ ?_
  rotate_left
  · rintro w' ⟨s0, s1, s2, s3, s4, s5, s6, s7, s8, s9, s10, s11, s12, s13⟩
    go_simp
    with_reducible rfl
  rotate_left
  · simp only [Act.put, List.setIfInBounds_toArray, List.set_cons_zero, List.set_cons_succ, i64_w, i32_w]
    rfl
  refine one_ (i := 2) (N := some 60) #[true, true, true, false, false] rfl rfl (by kernel_rfl) (by decide) (fun K hK => ?_)
  refine goes_ Try.func37 (by kernel_rfl) rfl #[.agg #[.slice A0_0 l0_0.length c0_0, .int .i64 a0_1, .int .i64 a0_2, .int .i64 a0_3, .int .i64 a0_4, .int .i64 a0_5, .slice A0_6 l0_6.length c0_6]] (by rfl) rfl rfl (by (try simp only [List.map_toArray, List.map_cons, List.map_nil]); first | done | rfl) ?_
  with_reducible refine (laws_toArena.calls k A0_0 c0_0 l0_0 a0_1 a0_2 a0_3 a0_4 a0_5 A0_6 c0_6 l0_6 r14 r15 r16 r17 r18 r19 r20 w127 (Kd.C_below HR0_0.out HB.out) HC0_0.out (Kd.C_below HR0_6.out HB.out) HC0_6.out e21.out).mono ?_
  rintro e w129 ⟨v0_w129, v6_w129, rfl, h0_w129, h6_w129, hb⟩
  refine ⟨_, rfl, ?_⟩
  replace BK1 := Aside0.mk (blk_below BK1.out hb)
  replace BK2 := Aside0.mk (blk_below BK2.out hb)
  replace O40 := Aside0.mk (Kd.S_below O40.out hb)
  replace O41 := Aside0.mk (Kd.R_below O41.out hb)
  replace BK43 := Aside0.mk (blk_below BK43.out hb)
  replace BK46 := Aside0.mk (blk_below BK46.out hb)
  replace O67 := Aside0.mk (Kd.S_below O67.out hb)
  replace O70 := Aside0.mk (Kd.R_below O70.out hb)
  replace BK72 := Aside0.mk (blk_below BK72.out hb)
  replace O79 := Aside0.mk (Kd.S_below O79.out hb)
  replace O80 := Aside0.mk (Kd.R_below O80.out hb)
  replace BK82 := Aside0.mk (blk_below BK82.out hb)
  replace BK85 := Aside0.mk (blk_below BK85.out hb)
  obtain ⟨A130, c131, rfl⟩ := Kd.S_slice h0_w129
  have O132 := Aside0.mk (show Kd.S (Kd.slice 5 (Kd.int .u8)) 29 w129 w.heap.size (Seg w127.heap.size w129.heap.size w129 [29, 5]) (.slice A130 r14.length c131) r14 from Kd.S_lower (Kd.S_mono (Kd.S_bound h0_w129) (fun k_ hk => ⟨hk.2.1, hk.2.2.1, hk.2.2.2⟩)) (below_size HB.out))
  obtain ⟨A133, c134, rfl⟩ := Kd.R_slice h6_w129
  have O135 := Aside0.mk (show Kd.R (Kd.int .i64) 3 w129 w.heap.size (Seg w127.heap.size w129.heap.size w129 [3]) (.slice A133 r20.length c134) r20 from Kd.R_lower (Kd.R_mono (Kd.R_bound h6_w129) (fun k_ hk => ⟨hk.2.1, hk.2.2.1, hk.2.2.2⟩)) (below_size HB.out))
  have Z136 := Aside0.mk (below_size hb)
  replace HB := Aside0.mk (below_step HB.out hb)
  clear hb h0_w129 h6_w129
  refine hK.out _ _ ⟨(blk_cell BK72.out 0).trans rfl, (blk_cell BK72.out 1).trans rfl, (blk_cell BK72.out 2).trans rfl, (blk_cell BK72.out 3).trans rfl, (blk_cell BK72.out 4).trans rfl, (blk_cell BK72.out 5).trans rfl, (blk_cell BK72.out 6).trans rfl, (blk_cell BK1.out 0).trans rfl, (blk_cell BK1.out 1).trans rfl, (blk_cell BK1.out 2).trans rfl, (blk_cell BK1.out 3).trans rfl, (blk_cell BK1.out 4).trans rfl, (blk_cell BK1.out 5).trans rfl, (blk_cell BK1.out 6).trans rfl⟩ (fun hHeld => ?_)
  clear hK K
  refine norm_ (a' := ?_) ?_ ?_
  rotate_left
  · show Act.put _ (some 60) _ = _
    simp only [Act.put, List.setIfInBounds_toArray, List.set_cons_zero, List.set_cons_succ, i64_w, i32_w]
    rfl
  refine one_ (i := 3) (N := some 61) #[true, true, true, true, false] rfl rfl (by kernel_rfl) (by decide) (fun K hK => ?_)
  refine goes_ Try.func40 (by kernel_rfl) rfl #[.agg #[.slice A65 r14.length c66, .int .i64 r15, .int .i64 r16, .int .i64 r17, .int .i64 r18, .int .i64 r19, .slice A68 r20.length c69], .agg #[.slice A130 r14.length c131, .int .i64 r15, .int .i64 r16, .int .i64 r17, .int .i64 r18, .int .i64 r19, .slice A133 r20.length c134]] (by rfl) rfl rfl (by (try simp only [List.map_toArray, List.map_cons, List.map_nil]); first | done | rfl) ?_
  with_reducible refine (laws_eqArena.calls k A65 c66 r14 r15 r16 r17 r18 r19 A68 c69 r20 A130 c131 r14 r15 r16 r17 r18 r19 A133 c134 r20 true w129 (Kd.S_reads' O67.out).2.2 (Kd.S_reads' O67.out).2.1 (Kd.R_reads' O70.out).2.2 (Kd.R_reads' O70.out).2.1 (Kd.S_reads' O132.out).2.2 (Kd.S_reads' O132.out).2.1 (Kd.R_reads' O135.out).2.2 (Kd.R_reads' O135.out).2.1 e138.out).mono ?_
  rintro e w137 ⟨rfl, hb⟩
  refine ⟨_, rfl, ?_⟩
  replace BK1 := Aside0.mk (blk_below BK1.out hb)
  replace BK2 := Aside0.mk (blk_below BK2.out hb)
  replace O40 := Aside0.mk (Kd.S_below O40.out hb)
  replace O41 := Aside0.mk (Kd.R_below O41.out hb)
  replace BK43 := Aside0.mk (blk_below BK43.out hb)
  replace BK46 := Aside0.mk (blk_below BK46.out hb)
  replace O67 := Aside0.mk (Kd.S_below O67.out hb)
  replace O70 := Aside0.mk (Kd.R_below O70.out hb)
  replace BK72 := Aside0.mk (blk_below BK72.out hb)
  replace O79 := Aside0.mk (Kd.S_below O79.out hb)
  replace O80 := Aside0.mk (Kd.R_below O80.out hb)
  replace BK82 := Aside0.mk (blk_below BK82.out hb)
  replace BK85 := Aside0.mk (blk_below BK85.out hb)
  replace O132 := Aside0.mk (Kd.S_below O132.out hb)
  replace O135 := Aside0.mk (Kd.R_below O135.out hb)
  have Z139 := Aside0.mk (below_size hb)
  replace HB := Aside0.mk (below_step HB.out hb)
  clear hb 
  refine hK.out _ _ ⟨(blk_cell BK72.out 0).trans rfl, (blk_cell BK72.out 1).trans rfl, (blk_cell BK72.out 2).trans rfl, (blk_cell BK72.out 3).trans rfl, (blk_cell BK72.out 4).trans rfl, (blk_cell BK72.out 5).trans rfl, (blk_cell BK72.out 6).trans rfl, (blk_cell BK1.out 0).trans rfl, (blk_cell BK1.out 1).trans rfl, (blk_cell BK1.out 2).trans rfl, (blk_cell BK1.out 3).trans rfl, (blk_cell BK1.out 4).trans rfl, (blk_cell BK1.out 5).trans rfl, (blk_cell BK1.out 6).trans rfl⟩ (fun hHeld => ?_)
  clear hK K
  refine norm_ (a' := ?_) ?_ ?_
  rotate_left
  · show Act.put _ (some 61) _ = _
    simp only [Act.put, List.setIfInBounds_toArray, List.set_cons_zero, List.set_cons_succ, i64_w, i32_w]
    rfl
  refine pure_ (i := 4) (N := some 62) (v := ?_) (a' := ?_) #[true, true, true, true, true] rfl rfl (by kernel_rfl) (fun _ _ _ h => h) (Or.inl ⟨by rfl, ?_⟩) ?_ ?_
  rotate_left
  · intro w'
    go_simp
    with_reducible rfl
  rotate_left
  · simp only [Act.put, List.setIfInBounds_toArray, List.set_cons_zero, List.set_cons_succ, i64_w, i32_w]
    rfl
  refine done_ (by kernel_rfl) ?_
  clear hHeld
  clear O132 O135
  have hz140 : w137.cell? ⟨w64.heap.size, 0, none⟩ = some (.slice A65 r14.length c66) := (blk_cell BK72.out 0).trans rfl
  have hz141 : w137.cell? ⟨w64.heap.size, 1, none⟩ = some (.int .i64 r15) := (blk_cell BK72.out 1).trans rfl
  have hz142 : w137.cell? ⟨w64.heap.size, 2, none⟩ = some (.int .i64 r16) := (blk_cell BK72.out 2).trans rfl
  have hz143 : w137.cell? ⟨w64.heap.size, 3, none⟩ = some (.int .i64 r17) := (blk_cell BK72.out 3).trans rfl
  have hz144 : w137.cell? ⟨w64.heap.size, 4, none⟩ = some (.int .i64 r18) := (blk_cell BK72.out 4).trans rfl
  have hz145 : w137.cell? ⟨w64.heap.size, 5, none⟩ = some (.int .i64 r19) := (blk_cell BK72.out 5).trans rfl
  have hz146 : w137.cell? ⟨w64.heap.size, 6, none⟩ = some (.slice A68 r20.length c69) := (blk_cell BK72.out 6).trans rfl
  have hl147 : w64.heap.size < w137.heap.size := blk_lt BK72.out
  go_wp2_with fail
  clear hz140 hz141 hz142 hz143 hz144 hz145 hz146 hl147
  refine (laws_markArena.calls k (Seg w48.heap.size w64.heap.size w64 [29, 5]) _ r14 r15 r16 r17 r18 r19 (Seg w48.heap.size w64.heap.size w64 [3]) _ r20 1 m149 x150 x151 w w137 HB.out O67.out O70.out (fun k_ h1 h2 => Ty_ne h1.2.2 h2.2.2 (by decide)) e152.out).mono ?_
  rintro e w148 ⟨rfl, h153, h154, hb, hk⟩
  replace BK1 := Aside0.mk (blk_kept BK1.out hk (fun hs => hs.elim (fun hq => (by have := hq.1; have := hq.2.1; have := Z4.out; have := Z6.out; have := Z10.out; have := Z12.out; have := Z44.out; have := Z47.out; have := Z49.out; have := Z50.out; have := Z53.out; have := Z71.out; have := Z74.out; have := Z76.out; have := Z83.out; have := Z86.out; have := Z88.out; have := Z89.out; have := Z92.out; have := Z113.out; have := Z126.out; have := Z128.out; have := Z136.out; have := Z139.out; omega)) (fun hs' => (by have := hs'.1; have := hs'.2.1; have := Z4.out; have := Z6.out; have := Z10.out; have := Z12.out; have := Z44.out; have := Z47.out; have := Z49.out; have := Z50.out; have := Z53.out; have := Z71.out; have := Z74.out; have := Z76.out; have := Z83.out; have := Z86.out; have := Z88.out; have := Z89.out; have := Z92.out; have := Z113.out; have := Z126.out; have := Z128.out; have := Z136.out; have := Z139.out; omega))))
  replace BK2 := Aside0.mk (blk_kept BK2.out hk (fun hs => hs.elim (fun hq => (by have := hq.1; have := hq.2.1; have := Z4.out; have := Z6.out; have := Z10.out; have := Z12.out; have := Z44.out; have := Z47.out; have := Z49.out; have := Z50.out; have := Z53.out; have := Z71.out; have := Z74.out; have := Z76.out; have := Z83.out; have := Z86.out; have := Z88.out; have := Z89.out; have := Z92.out; have := Z113.out; have := Z126.out; have := Z128.out; have := Z136.out; have := Z139.out; omega)) (fun hs' => (by have := hs'.1; have := hs'.2.1; have := Z4.out; have := Z6.out; have := Z10.out; have := Z12.out; have := Z44.out; have := Z47.out; have := Z49.out; have := Z50.out; have := Z53.out; have := Z71.out; have := Z74.out; have := Z76.out; have := Z83.out; have := Z86.out; have := Z88.out; have := Z89.out; have := Z92.out; have := Z113.out; have := Z126.out; have := Z128.out; have := Z136.out; have := Z139.out; omega))))
  replace O40 := Aside0.mk (Kd.S_step O40.out (fun k_ hk_ hlt => hk.2 k_ hlt (fun hs => hs.elim (fun hq => (by have := hq.1; have := hq.2.1; have := hk_.1; have := hk_.2.1; have := Z4.out; have := Z6.out; have := Z10.out; have := Z12.out; have := Z44.out; have := Z47.out; have := Z49.out; have := Z50.out; have := Z53.out; have := Z71.out; have := Z74.out; have := Z76.out; have := Z83.out; have := Z86.out; have := Z88.out; have := Z89.out; have := Z92.out; have := Z113.out; have := Z126.out; have := Z128.out; have := Z136.out; have := Z139.out;  omega)) (fun hs' => (by have := hs'.1; have := hs'.2.1; have := hk_.1; have := hk_.2.1; have := Z4.out; have := Z6.out; have := Z10.out; have := Z12.out; have := Z44.out; have := Z47.out; have := Z49.out; have := Z50.out; have := Z53.out; have := Z71.out; have := Z74.out; have := Z76.out; have := Z83.out; have := Z86.out; have := Z88.out; have := Z89.out; have := Z92.out; have := Z113.out; have := Z126.out; have := Z128.out; have := Z136.out; have := Z139.out;  omega)))))
  replace O41 := Aside0.mk (Kd.R_step O41.out (fun k_ hk_ hlt => hk.2 k_ hlt (fun hs => hs.elim (fun hq => (by have := hq.1; have := hq.2.1; have := hk_.1; have := hk_.2.1; have := Z4.out; have := Z6.out; have := Z10.out; have := Z12.out; have := Z44.out; have := Z47.out; have := Z49.out; have := Z50.out; have := Z53.out; have := Z71.out; have := Z74.out; have := Z76.out; have := Z83.out; have := Z86.out; have := Z88.out; have := Z89.out; have := Z92.out; have := Z113.out; have := Z126.out; have := Z128.out; have := Z136.out; have := Z139.out;  omega)) (fun hs' => (by have := hs'.1; have := hs'.2.1; have := hk_.1; have := hk_.2.1; have := Z4.out; have := Z6.out; have := Z10.out; have := Z12.out; have := Z44.out; have := Z47.out; have := Z49.out; have := Z50.out; have := Z53.out; have := Z71.out; have := Z74.out; have := Z76.out; have := Z83.out; have := Z86.out; have := Z88.out; have := Z89.out; have := Z92.out; have := Z113.out; have := Z126.out; have := Z128.out; have := Z136.out; have := Z139.out;  omega)))))
  replace BK43 := Aside0.mk (blk_kept BK43.out hk (fun hs => hs.elim (fun hq => (by have := hq.1; have := hq.2.1; have := Z4.out; have := Z6.out; have := Z10.out; have := Z12.out; have := Z44.out; have := Z47.out; have := Z49.out; have := Z50.out; have := Z53.out; have := Z71.out; have := Z74.out; have := Z76.out; have := Z83.out; have := Z86.out; have := Z88.out; have := Z89.out; have := Z92.out; have := Z113.out; have := Z126.out; have := Z128.out; have := Z136.out; have := Z139.out; omega)) (fun hs' => (by have := hs'.1; have := hs'.2.1; have := Z4.out; have := Z6.out; have := Z10.out; have := Z12.out; have := Z44.out; have := Z47.out; have := Z49.out; have := Z50.out; have := Z53.out; have := Z71.out; have := Z74.out; have := Z76.out; have := Z83.out; have := Z86.out; have := Z88.out; have := Z89.out; have := Z92.out; have := Z113.out; have := Z126.out; have := Z128.out; have := Z136.out; have := Z139.out; omega))))
  replace BK46 := Aside0.mk (blk_kept BK46.out hk (fun hs => hs.elim (fun hq => (by have := hq.1; have := hq.2.1; have := Z4.out; have := Z6.out; have := Z10.out; have := Z12.out; have := Z44.out; have := Z47.out; have := Z49.out; have := Z50.out; have := Z53.out; have := Z71.out; have := Z74.out; have := Z76.out; have := Z83.out; have := Z86.out; have := Z88.out; have := Z89.out; have := Z92.out; have := Z113.out; have := Z126.out; have := Z128.out; have := Z136.out; have := Z139.out; omega)) (fun hs' => (by have := hs'.1; have := hs'.2.1; have := Z4.out; have := Z6.out; have := Z10.out; have := Z12.out; have := Z44.out; have := Z47.out; have := Z49.out; have := Z50.out; have := Z53.out; have := Z71.out; have := Z74.out; have := Z76.out; have := Z83.out; have := Z86.out; have := Z88.out; have := Z89.out; have := Z92.out; have := Z113.out; have := Z126.out; have := Z128.out; have := Z136.out; have := Z139.out; omega))))
  replace BK72 := Aside0.mk (blk_kept BK72.out hk (fun hs => hs.elim (fun hq => (by have := hq.1; have := hq.2.1; have := Z4.out; have := Z6.out; have := Z10.out; have := Z12.out; have := Z44.out; have := Z47.out; have := Z49.out; have := Z50.out; have := Z53.out; have := Z71.out; have := Z74.out; have := Z76.out; have := Z83.out; have := Z86.out; have := Z88.out; have := Z89.out; have := Z92.out; have := Z113.out; have := Z126.out; have := Z128.out; have := Z136.out; have := Z139.out; omega)) (fun hs' => (by have := hs'.1; have := hs'.2.1; have := Z4.out; have := Z6.out; have := Z10.out; have := Z12.out; have := Z44.out; have := Z47.out; have := Z49.out; have := Z50.out; have := Z53.out; have := Z71.out; have := Z74.out; have := Z76.out; have := Z83.out; have := Z86.out; have := Z88.out; have := Z89.out; have := Z92.out; have := Z113.out; have := Z126.out; have := Z128.out; have := Z136.out; have := Z139.out; omega))))
  replace O79 := Aside0.mk (Kd.S_step O79.out (fun k_ hk_ hlt => hk.2 k_ hlt (fun hs => hs.elim (fun hq => (by have := hq.1; have := hq.2.1; have := hk_.1; have := hk_.2.1; have := Z4.out; have := Z6.out; have := Z10.out; have := Z12.out; have := Z44.out; have := Z47.out; have := Z49.out; have := Z50.out; have := Z53.out; have := Z71.out; have := Z74.out; have := Z76.out; have := Z83.out; have := Z86.out; have := Z88.out; have := Z89.out; have := Z92.out; have := Z113.out; have := Z126.out; have := Z128.out; have := Z136.out; have := Z139.out;  omega)) (fun hs' => (by have := hs'.1; have := hs'.2.1; have := hk_.1; have := hk_.2.1; have := Z4.out; have := Z6.out; have := Z10.out; have := Z12.out; have := Z44.out; have := Z47.out; have := Z49.out; have := Z50.out; have := Z53.out; have := Z71.out; have := Z74.out; have := Z76.out; have := Z83.out; have := Z86.out; have := Z88.out; have := Z89.out; have := Z92.out; have := Z113.out; have := Z126.out; have := Z128.out; have := Z136.out; have := Z139.out;  omega)))))
  replace O80 := Aside0.mk (Kd.R_step O80.out (fun k_ hk_ hlt => hk.2 k_ hlt (fun hs => hs.elim (fun hq => (by have := hq.1; have := hq.2.1; have := hk_.1; have := hk_.2.1; have := Z4.out; have := Z6.out; have := Z10.out; have := Z12.out; have := Z44.out; have := Z47.out; have := Z49.out; have := Z50.out; have := Z53.out; have := Z71.out; have := Z74.out; have := Z76.out; have := Z83.out; have := Z86.out; have := Z88.out; have := Z89.out; have := Z92.out; have := Z113.out; have := Z126.out; have := Z128.out; have := Z136.out; have := Z139.out;  omega)) (fun hs' => (by have := hs'.1; have := hs'.2.1; have := hk_.1; have := hk_.2.1; have := Z4.out; have := Z6.out; have := Z10.out; have := Z12.out; have := Z44.out; have := Z47.out; have := Z49.out; have := Z50.out; have := Z53.out; have := Z71.out; have := Z74.out; have := Z76.out; have := Z83.out; have := Z86.out; have := Z88.out; have := Z89.out; have := Z92.out; have := Z113.out; have := Z126.out; have := Z128.out; have := Z136.out; have := Z139.out;  omega)))))
  replace BK82 := Aside0.mk (blk_kept BK82.out hk (fun hs => hs.elim (fun hq => (by have := hq.1; have := hq.2.1; have := Z4.out; have := Z6.out; have := Z10.out; have := Z12.out; have := Z44.out; have := Z47.out; have := Z49.out; have := Z50.out; have := Z53.out; have := Z71.out; have := Z74.out; have := Z76.out; have := Z83.out; have := Z86.out; have := Z88.out; have := Z89.out; have := Z92.out; have := Z113.out; have := Z126.out; have := Z128.out; have := Z136.out; have := Z139.out; omega)) (fun hs' => (by have := hs'.1; have := hs'.2.1; have := Z4.out; have := Z6.out; have := Z10.out; have := Z12.out; have := Z44.out; have := Z47.out; have := Z49.out; have := Z50.out; have := Z53.out; have := Z71.out; have := Z74.out; have := Z76.out; have := Z83.out; have := Z86.out; have := Z88.out; have := Z89.out; have := Z92.out; have := Z113.out; have := Z126.out; have := Z128.out; have := Z136.out; have := Z139.out; omega))))
  replace BK85 := Aside0.mk (blk_kept BK85.out hk (fun hs => hs.elim (fun hq => (by have := hq.1; have := hq.2.1; have := Z4.out; have := Z6.out; have := Z10.out; have := Z12.out; have := Z44.out; have := Z47.out; have := Z49.out; have := Z50.out; have := Z53.out; have := Z71.out; have := Z74.out; have := Z76.out; have := Z83.out; have := Z86.out; have := Z88.out; have := Z89.out; have := Z92.out; have := Z113.out; have := Z126.out; have := Z128.out; have := Z136.out; have := Z139.out; omega)) (fun hs' => (by have := hs'.1; have := hs'.2.1; have := Z4.out; have := Z6.out; have := Z10.out; have := Z12.out; have := Z44.out; have := Z47.out; have := Z49.out; have := Z50.out; have := Z53.out; have := Z71.out; have := Z74.out; have := Z76.out; have := Z83.out; have := Z86.out; have := Z88.out; have := Z89.out; have := Z92.out; have := Z113.out; have := Z126.out; have := Z128.out; have := Z136.out; have := Z139.out; omega))))
  replace O67 := Aside0.mk h153
  replace O70 := Aside0.mk h154
  replace HB := Aside0.mk hb
  have Z155 := Aside0.mk hk.1
  clear hb hk h153 h154
  have hn156 := (Kd.S_reads' O67.out).1
  have hn156_ := Aside0.mk hn156
  clear hn156
  have hn157 := (Kd.R_reads' O70.out).1
  have hn157_ := Aside0.mk hn157
  clear hn157
  clear O67 O70 BK72
  have hz158 : w148.cell? ⟨g7r8_, 0, none⟩ = some (.slice A7r3_0_ r27.length c7r3_0_) := (blk_cell BK82.out 0).trans rfl
  have hz159 : w148.cell? ⟨g7r8_, 1, none⟩ = some (.int .i64 r28) := (blk_cell BK82.out 1).trans rfl
  have hz160 : w148.cell? ⟨g7r8_, 2, none⟩ = some (.int .i64 r29) := (blk_cell BK82.out 2).trans rfl
  have hz161 : w148.cell? ⟨g7r8_, 3, none⟩ = some (.int .i64 r30) := (blk_cell BK82.out 3).trans rfl
  have hz162 : w148.cell? ⟨g7r8_, 4, none⟩ = some (.int .i64 r31) := (blk_cell BK82.out 4).trans rfl
  have hz163 : w148.cell? ⟨g7r8_, 5, none⟩ = some (.int .i64 r32) := (blk_cell BK82.out 5).trans rfl
  have hz164 : w148.cell? ⟨g7r8_, 6, none⟩ = some (.slice A7r3_6_ r33.length c7r3_6_) := (blk_cell BK82.out 6).trans rfl
  have hl165 : g7r8_ < w148.heap.size := blk_lt BK82.out
  have hz166 : w148.cell? ⟨g5r9_, 0, none⟩ = some (.slice A5r4_0_ r27.length c5r4_0_) := (blk_cell BK43.out 0).trans rfl
  have hz167 : w148.cell? ⟨g5r9_, 1, none⟩ = some (.int .i64 r28) := (blk_cell BK43.out 1).trans rfl
  have hz168 : w148.cell? ⟨g5r9_, 2, none⟩ = some (.int .i64 r29) := (blk_cell BK43.out 2).trans rfl
  have hz169 : w148.cell? ⟨g5r9_, 3, none⟩ = some (.int .i64 r30) := (blk_cell BK43.out 3).trans rfl
  have hz170 : w148.cell? ⟨g5r9_, 4, none⟩ = some (.int .i64 r31) := (blk_cell BK43.out 4).trans rfl
  have hz171 : w148.cell? ⟨g5r9_, 5, none⟩ = some (.int .i64 r32) := (blk_cell BK43.out 5).trans rfl
  have hz172 : w148.cell? ⟨g5r9_, 6, none⟩ = some (.slice A5r4_6_ r33.length c5r4_6_) := (blk_cell BK43.out 6).trans rfl
  have hl173 : g5r9_ < w148.heap.size := blk_lt BK43.out
  go_wp2_with fail
  clear hz158 hz159 hz160 hz161 hz162 hz163 hz164 hl165 hz166 hz167 hz168 hz169 hz170 hz171 hz172 hl173
  have e175 := e112
  refine (laws_eqArena.calls k A7r3_0_ c7r3_0_ r27 r28 r29 r30 r31 r32 A7r3_6_ c7r3_6_ r33 A5r4_0_ c5r4_0_ r27 r28 r29 r30 r31 r32 A5r4_6_ c5r4_6_ r33 true w148 (Kd.S_reads' O79.out).2.2 (Kd.S_reads' O79.out).2.1 (Kd.R_reads' O80.out).2.2 (Kd.R_reads' O80.out).2.1 (Kd.S_reads' O40.out).2.2 (Kd.S_reads' O40.out).2.1 (Kd.R_reads' O41.out).2.2 (Kd.R_reads' O41.out).2.1 e175.out).mono ?_
  rintro e w174 ⟨rfl, hb⟩
  replace BK1 := Aside0.mk (blk_below BK1.out hb)
  replace BK2 := Aside0.mk (blk_below BK2.out hb)
  replace O40 := Aside0.mk (Kd.S_below O40.out hb)
  replace O41 := Aside0.mk (Kd.R_below O41.out hb)
  replace BK43 := Aside0.mk (blk_below BK43.out hb)
  replace BK46 := Aside0.mk (blk_below BK46.out hb)
  replace O79 := Aside0.mk (Kd.S_below O79.out hb)
  replace O80 := Aside0.mk (Kd.R_below O80.out hb)
  replace BK82 := Aside0.mk (blk_below BK82.out hb)
  replace BK85 := Aside0.mk (blk_below BK85.out hb)
  have Z176 := Aside0.mk (below_size hb)
  replace HB := Aside0.mk (below_step HB.out hb)
  clear hb 
  have hz177 : w174.cell? ⟨g7r9_, 0, none⟩ = some (.int .i64 r34) := (blk_cell BK85.out 0).trans rfl
  have hz178 : w174.cell? ⟨g7r9_, 1, none⟩ = some (.int .i64 r35) := (blk_cell BK85.out 1).trans rfl
  have hz179 : w174.cell? ⟨g7r9_, 2, none⟩ = some (.int .i64 r36) := (blk_cell BK85.out 2).trans rfl
  have hz180 : w174.cell? ⟨g7r9_, 3, none⟩ = some (.int .i64 r37) := (blk_cell BK85.out 3).trans rfl
  have hl181 : g7r9_ < w174.heap.size := blk_lt BK85.out
  have hz182 : w174.cell? ⟨g5r10_, 0, none⟩ = some (.int .i64 r34) := (blk_cell BK46.out 0).trans rfl
  have hz183 : w174.cell? ⟨g5r10_, 1, none⟩ = some (.int .i64 r35) := (blk_cell BK46.out 1).trans rfl
  have hz184 : w174.cell? ⟨g5r10_, 2, none⟩ = some (.int .i64 r36) := (blk_cell BK46.out 2).trans rfl
  have hz185 : w174.cell? ⟨g5r10_, 3, none⟩ = some (.int .i64 r37) := (blk_cell BK46.out 3).trans rfl
  have hl186 : g5r10_ < w174.heap.size := blk_lt BK46.out
  go_wp2_with fail
  clear hz177 hz178 hz179 hz180 hl181 hz182 hz183 hz184 hz185 hl186
  have e188 := e125
  refine (laws_eqWindow.calls r34 r35 r36 r37 r34 r35 r36 r37 true w174  e188.out).mono ?_
  rintro e w187 ⟨rfl, hb⟩
  replace BK1 := Aside0.mk (blk_below BK1.out hb)
  replace BK2 := Aside0.mk (blk_below BK2.out hb)
  replace O40 := Aside0.mk (Kd.S_below O40.out hb)
  replace O41 := Aside0.mk (Kd.R_below O41.out hb)
  replace BK43 := Aside0.mk (blk_below BK43.out hb)
  replace BK46 := Aside0.mk (blk_below BK46.out hb)
  replace O79 := Aside0.mk (Kd.S_below O79.out hb)
  replace O80 := Aside0.mk (Kd.R_below O80.out hb)
  replace BK82 := Aside0.mk (blk_below BK82.out hb)
  replace BK85 := Aside0.mk (blk_below BK85.out hb)
  have Z189 := Aside0.mk (below_size hb)
  replace HB := Aside0.mk (below_step HB.out hb)
  clear hb 
  clear BK85
  have hz190 : w187.cell? ⟨g7r8_, 0, none⟩ = some (.slice A7r3_0_ r27.length c7r3_0_) := (blk_cell BK82.out 0).trans rfl
  have hz191 : w187.cell? ⟨g7r8_, 1, none⟩ = some (.int .i64 r28) := (blk_cell BK82.out 1).trans rfl
  have hz192 : w187.cell? ⟨g7r8_, 2, none⟩ = some (.int .i64 r29) := (blk_cell BK82.out 2).trans rfl
  have hz193 : w187.cell? ⟨g7r8_, 3, none⟩ = some (.int .i64 r30) := (blk_cell BK82.out 3).trans rfl
  have hz194 : w187.cell? ⟨g7r8_, 4, none⟩ = some (.int .i64 r31) := (blk_cell BK82.out 4).trans rfl
  have hz195 : w187.cell? ⟨g7r8_, 5, none⟩ = some (.int .i64 r32) := (blk_cell BK82.out 5).trans rfl
  have hz196 : w187.cell? ⟨g7r8_, 6, none⟩ = some (.slice A7r3_6_ r33.length c7r3_6_) := (blk_cell BK82.out 6).trans rfl
  have hl197 : g7r8_ < w187.heap.size := blk_lt BK82.out
  go_wp2_with fail
  clear hz190 hz191 hz192 hz193 hz194 hz195 hz196 hl197
  refine (laws_markArena.calls k (Seg w75.heap.size w87.heap.size w87 [29, 5]) _ r27 r28 r29 r30 r31 r32 (Seg w75.heap.size w87.heap.size w87 [3]) _ r33 1 m199 x200 x201 w w187 HB.out O79.out O80.out (fun k_ h1 h2 => Ty_ne h1.2.2 h2.2.2 (by decide)) e202.out).mono ?_
  rintro e w198 ⟨rfl, h203, h204, hb, hk⟩
  replace BK1 := Aside0.mk (blk_kept BK1.out hk (fun hs => hs.elim (fun hq => (by have := hq.1; have := hq.2.1; have := Z4.out; have := Z6.out; have := Z10.out; have := Z12.out; have := Z44.out; have := Z47.out; have := Z49.out; have := Z50.out; have := Z53.out; have := Z71.out; have := Z74.out; have := Z76.out; have := Z83.out; have := Z86.out; have := Z88.out; have := Z89.out; have := Z92.out; have := Z113.out; have := Z126.out; have := Z128.out; have := Z136.out; have := Z139.out; have := Z155.out; have := Z176.out; have := Z189.out; omega)) (fun hs' => (by have := hs'.1; have := hs'.2.1; have := Z4.out; have := Z6.out; have := Z10.out; have := Z12.out; have := Z44.out; have := Z47.out; have := Z49.out; have := Z50.out; have := Z53.out; have := Z71.out; have := Z74.out; have := Z76.out; have := Z83.out; have := Z86.out; have := Z88.out; have := Z89.out; have := Z92.out; have := Z113.out; have := Z126.out; have := Z128.out; have := Z136.out; have := Z139.out; have := Z155.out; have := Z176.out; have := Z189.out; omega))))
  replace BK2 := Aside0.mk (blk_kept BK2.out hk (fun hs => hs.elim (fun hq => (by have := hq.1; have := hq.2.1; have := Z4.out; have := Z6.out; have := Z10.out; have := Z12.out; have := Z44.out; have := Z47.out; have := Z49.out; have := Z50.out; have := Z53.out; have := Z71.out; have := Z74.out; have := Z76.out; have := Z83.out; have := Z86.out; have := Z88.out; have := Z89.out; have := Z92.out; have := Z113.out; have := Z126.out; have := Z128.out; have := Z136.out; have := Z139.out; have := Z155.out; have := Z176.out; have := Z189.out; omega)) (fun hs' => (by have := hs'.1; have := hs'.2.1; have := Z4.out; have := Z6.out; have := Z10.out; have := Z12.out; have := Z44.out; have := Z47.out; have := Z49.out; have := Z50.out; have := Z53.out; have := Z71.out; have := Z74.out; have := Z76.out; have := Z83.out; have := Z86.out; have := Z88.out; have := Z89.out; have := Z92.out; have := Z113.out; have := Z126.out; have := Z128.out; have := Z136.out; have := Z139.out; have := Z155.out; have := Z176.out; have := Z189.out; omega))))
  replace O40 := Aside0.mk (Kd.S_step O40.out (fun k_ hk_ hlt => hk.2 k_ hlt (fun hs => hs.elim (fun hq => (by have := hq.1; have := hq.2.1; have := hk_.1; have := hk_.2.1; have := Z4.out; have := Z6.out; have := Z10.out; have := Z12.out; have := Z44.out; have := Z47.out; have := Z49.out; have := Z50.out; have := Z53.out; have := Z71.out; have := Z74.out; have := Z76.out; have := Z83.out; have := Z86.out; have := Z88.out; have := Z89.out; have := Z92.out; have := Z113.out; have := Z126.out; have := Z128.out; have := Z136.out; have := Z139.out; have := Z155.out; have := Z176.out; have := Z189.out;  omega)) (fun hs' => (by have := hs'.1; have := hs'.2.1; have := hk_.1; have := hk_.2.1; have := Z4.out; have := Z6.out; have := Z10.out; have := Z12.out; have := Z44.out; have := Z47.out; have := Z49.out; have := Z50.out; have := Z53.out; have := Z71.out; have := Z74.out; have := Z76.out; have := Z83.out; have := Z86.out; have := Z88.out; have := Z89.out; have := Z92.out; have := Z113.out; have := Z126.out; have := Z128.out; have := Z136.out; have := Z139.out; have := Z155.out; have := Z176.out; have := Z189.out;  omega)))))
  replace O41 := Aside0.mk (Kd.R_step O41.out (fun k_ hk_ hlt => hk.2 k_ hlt (fun hs => hs.elim (fun hq => (by have := hq.1; have := hq.2.1; have := hk_.1; have := hk_.2.1; have := Z4.out; have := Z6.out; have := Z10.out; have := Z12.out; have := Z44.out; have := Z47.out; have := Z49.out; have := Z50.out; have := Z53.out; have := Z71.out; have := Z74.out; have := Z76.out; have := Z83.out; have := Z86.out; have := Z88.out; have := Z89.out; have := Z92.out; have := Z113.out; have := Z126.out; have := Z128.out; have := Z136.out; have := Z139.out; have := Z155.out; have := Z176.out; have := Z189.out;  omega)) (fun hs' => (by have := hs'.1; have := hs'.2.1; have := hk_.1; have := hk_.2.1; have := Z4.out; have := Z6.out; have := Z10.out; have := Z12.out; have := Z44.out; have := Z47.out; have := Z49.out; have := Z50.out; have := Z53.out; have := Z71.out; have := Z74.out; have := Z76.out; have := Z83.out; have := Z86.out; have := Z88.out; have := Z89.out; have := Z92.out; have := Z113.out; have := Z126.out; have := Z128.out; have := Z136.out; have := Z139.out; have := Z155.out; have := Z176.out; have := Z189.out;  omega)))))
  replace BK43 := Aside0.mk (blk_kept BK43.out hk (fun hs => hs.elim (fun hq => (by have := hq.1; have := hq.2.1; have := Z4.out; have := Z6.out; have := Z10.out; have := Z12.out; have := Z44.out; have := Z47.out; have := Z49.out; have := Z50.out; have := Z53.out; have := Z71.out; have := Z74.out; have := Z76.out; have := Z83.out; have := Z86.out; have := Z88.out; have := Z89.out; have := Z92.out; have := Z113.out; have := Z126.out; have := Z128.out; have := Z136.out; have := Z139.out; have := Z155.out; have := Z176.out; have := Z189.out; omega)) (fun hs' => (by have := hs'.1; have := hs'.2.1; have := Z4.out; have := Z6.out; have := Z10.out; have := Z12.out; have := Z44.out; have := Z47.out; have := Z49.out; have := Z50.out; have := Z53.out; have := Z71.out; have := Z74.out; have := Z76.out; have := Z83.out; have := Z86.out; have := Z88.out; have := Z89.out; have := Z92.out; have := Z113.out; have := Z126.out; have := Z128.out; have := Z136.out; have := Z139.out; have := Z155.out; have := Z176.out; have := Z189.out; omega))))
  replace BK46 := Aside0.mk (blk_kept BK46.out hk (fun hs => hs.elim (fun hq => (by have := hq.1; have := hq.2.1; have := Z4.out; have := Z6.out; have := Z10.out; have := Z12.out; have := Z44.out; have := Z47.out; have := Z49.out; have := Z50.out; have := Z53.out; have := Z71.out; have := Z74.out; have := Z76.out; have := Z83.out; have := Z86.out; have := Z88.out; have := Z89.out; have := Z92.out; have := Z113.out; have := Z126.out; have := Z128.out; have := Z136.out; have := Z139.out; have := Z155.out; have := Z176.out; have := Z189.out; omega)) (fun hs' => (by have := hs'.1; have := hs'.2.1; have := Z4.out; have := Z6.out; have := Z10.out; have := Z12.out; have := Z44.out; have := Z47.out; have := Z49.out; have := Z50.out; have := Z53.out; have := Z71.out; have := Z74.out; have := Z76.out; have := Z83.out; have := Z86.out; have := Z88.out; have := Z89.out; have := Z92.out; have := Z113.out; have := Z126.out; have := Z128.out; have := Z136.out; have := Z139.out; have := Z155.out; have := Z176.out; have := Z189.out; omega))))
  replace BK82 := Aside0.mk (blk_kept BK82.out hk (fun hs => hs.elim (fun hq => (NS90.out hq)) (fun hs' => (NS91.out hs'))))
  replace O79 := Aside0.mk h203
  replace O80 := Aside0.mk h204
  replace HB := Aside0.mk hb
  have Z205 := Aside0.mk hk.1
  clear hb hk h203 h204
  have hn206 := (Kd.S_reads' O79.out).1
  have hn206_ := Aside0.mk hn206
  clear hn206
  have hn207 := (Kd.R_reads' O80.out).1
  have hn207_ := Aside0.mk hn207
  clear hn207
  have hz208 : w198.cell? ⟨g7r8_, 0, none⟩ = some (.slice A7r3_0_ r27.length c7r3_0_) := (blk_cell BK82.out 0).trans rfl
  have hz209 : w198.cell? ⟨g7r8_, 1, none⟩ = some (.int .i64 r28) := (blk_cell BK82.out 1).trans rfl
  have hz210 : w198.cell? ⟨g7r8_, 2, none⟩ = some (.int .i64 r29) := (blk_cell BK82.out 2).trans rfl
  have hz211 : w198.cell? ⟨g7r8_, 3, none⟩ = some (.int .i64 r30) := (blk_cell BK82.out 3).trans rfl
  have hz212 : w198.cell? ⟨g7r8_, 4, none⟩ = some (.int .i64 r31) := (blk_cell BK82.out 4).trans rfl
  have hz213 : w198.cell? ⟨g7r8_, 5, none⟩ = some (.int .i64 r32) := (blk_cell BK82.out 5).trans rfl
  have hz214 : w198.cell? ⟨g7r8_, 6, none⟩ = some (.slice A7r3_6_ r33.length c7r3_6_) := (blk_cell BK82.out 6).trans rfl
  have hl215 : g7r8_ < w198.heap.size := blk_lt BK82.out
  go_wp2_with fail
  clear hz208 hz209 hz210 hz211 hz212 hz213 hz214 hl215
  rw [hn206_.out]
  rw [hn207_.out]
  refine (laws_heldArena.calls k A7r3_0_ c7r3_0_ x200 r28 r29 r30 r31 r32 A7r3_6_ c7r3_6_ x201 1 m199 w198 (Kd.S_reads' O79.out).2.2 (Nat.le_trans (Nat.le_of_eq hn206_.out.symm) (Kd.S_reads' O79.out).2.1) (Kd.R_reads' O80.out).2.2 (Nat.le_trans (Nat.le_of_eq hn207_.out.symm) (Kd.R_reads' O80.out).2.1) e217.out).mono ?_
  rintro e w216 ⟨rfl, hb⟩
  replace BK1 := Aside0.mk (blk_below BK1.out hb)
  replace BK2 := Aside0.mk (blk_below BK2.out hb)
  replace O40 := Aside0.mk (Kd.S_below O40.out hb)
  replace O41 := Aside0.mk (Kd.R_below O41.out hb)
  replace BK43 := Aside0.mk (blk_below BK43.out hb)
  replace BK46 := Aside0.mk (blk_below BK46.out hb)
  replace O79 := Aside0.mk (Kd.S_below O79.out hb)
  replace O80 := Aside0.mk (Kd.R_below O80.out hb)
  replace BK82 := Aside0.mk (blk_below BK82.out hb)
  have Z218 := Aside0.mk (below_size hb)
  replace HB := Aside0.mk (below_step HB.out hb)
  clear hb 
  try rw [← hn207_.out]
  try rw [← hn206_.out]
  go_wp2_with fail
  refine start_ (n := 14) (S := fun w' => True) (ds := []) #[false, false, false, false, false, false, false, false, false, false, false, false, false, false] (by kernel_rfl) rfl rfl trivial (fun hHeld => ?_)
  refine with_tabW FnExactGive.tab24 FnExactGive.bits24 (fun HT_ HW_ => ?_)
  replace BK1 := Aside0.mk (blk_drew BK1.out)
  replace BK2 := Aside0.mk (blk_drew BK2.out)
  replace O40 := Aside0.mk (Kd.S_drew O40.out)
  replace O41 := Aside0.mk (Kd.R_drew O41.out)
  replace BK43 := Aside0.mk (blk_drew BK43.out)
  replace BK46 := Aside0.mk (blk_drew BK46.out)
  replace O79 := Aside0.mk (Kd.S_drew O79.out)
  replace O80 := Aside0.mk (Kd.R_drew O80.out)
  replace BK82 := Aside0.mk (blk_drew BK82.out)
  replace HB := Aside0.mk (below_drew1 HB.out)
  have Z220 := Aside0.mk (show w216.heap.size ≤ w216.drew.heap.size from Nat.le_refl _)
  generalize w216.drew = w219 at BK1 BK2 O40 O41 BK43 BK46 O79 O80 BK82 HB Z220 hHeld ⊢
  clear hHeld
  have HD221 := Aside0.mk (Below.refl w219.heap.size w219)
  refine inv_at [0, 1, 2, 3, 4, 5, 6, 7, 8, 9, 10, 11, 12, 13] (fun a0_ b a w' => ∃ (A24r1_0_ : Option Addr) (c24r1_0_ : Nat) (A24r1_6_ : Option Addr) (c24r1_6_ : Nat) (A24r4_0_ : Option Addr) (c24r4_0_ : Nat) (A24r4_6_ : Option Addr) (c24r4_6_ : Nat) (g24r9_ : Nat) (g24r10_ : Nat) (m1_ : Value) (m4_ : Value) (m5_ : Value) (m6_ : Value) (m9_ : Value) (m10_ : Value), a = putSel a0_ b [(0, 97, .agg #[.slice A0_0 l0_0.length c0_0, .int .i64 a0_1, .int .i64 a0_2, .int .i64 a0_3, .int .i64 a0_4, .int .i64 a0_5, .slice A0_6 l0_6.length c0_6]), (1, 98, m1_), (2, 99, .agg #[.int .i64 a1_0, .int .i64 a1_1]), (3, 100, .agg #[.int .i64 r24, .int .i64 r25]), (4, 101, m4_), (5, 96, m5_), (6, 102, m6_), (7, 103, .agg #[.int .i64 r34, .int .i64 r35, .int .i64 r36, .int .i64 r37]), (8, 104, .bool r38), (9, 16, m9_), (10, 17, m10_), (13, 18, .bool r38)] ∧ (Below w219.heap.size w219 w') ∧ (b 1 = true → b 4 = false → Kd.S (Kd.slice 5 (Kd.int .u8)) 29 w' w219.heap.size (fun _ => True) (.slice A24r1_0_ r14.length c24r1_0_) r14) ∧ (b 1 = true → b 4 = false → Kd.R (Kd.int .i64) 3 w' w219.heap.size (fun _ => True) (.slice A24r1_6_ r20.length c24r1_6_) r20) ∧ (b 4 = true → Kd.S (Kd.slice 5 (Kd.int .u8)) 29 w' w219.heap.size (fun _ => True) (.slice A24r4_0_ r27.length c24r4_0_) r27) ∧ (b 4 = true → Kd.R (Kd.int .i64) 3 w' w219.heap.size (fun _ => True) (.slice A24r4_6_ r33.length c24r4_6_) r33) ∧ (b 9 = true → b 11 = false → w'.heap[g24r9_]? = some (.cells #[.slice none 0 0, .int .i64 0, .int .i64 0, .int .i64 0, .int .i64 0, .int .i64 0, .slice none 0 0] 70 (0, 0))) ∧ (b 9 = true → w219.heap.size ≤ g24r9_) ∧ (b 10 = true → b 12 = false → w'.heap[g24r10_]? = some (.cells #[.int .i64 0, .int .i64 0, .int .i64 0, .int .i64 0] 32 (0, 0))) ∧ (b 10 = true → w219.heap.size ≤ g24r10_) ∧ (b 9 = true → b 11 = true → w'.heap[g24r9_]? = some (.cells #[.slice A24r4_0_ r27.length c24r4_0_, .int .i64 r28, .int .i64 r29, .int .i64 r30, .int .i64 r31, .int .i64 r32, .slice A24r4_6_ r33.length c24r4_6_] 70 (0, 0))) ∧ (b 10 = true → b 12 = true → w'.heap[g24r10_]? = some (.cells #[.int .i64 r34, .int .i64 r35, .int .i64 r36, .int .i64 r37] 32 (0, 0))) ∧ (b 1 = true → (m1_ : Value) = .agg #[.slice A24r1_0_ r14.length c24r1_0_, .int .i64 r15, .int .i64 r16, .int .i64 r17, .int .i64 r18, .int .i64 r19, .slice A24r1_6_ r20.length c24r1_6_]) ∧ (b 4 = true → (m4_ : Value) = .tuple #[.agg #[.slice A24r4_0_ r27.length c24r4_0_, .int .i64 r28, .int .i64 r29, .int .i64 r30, .int .i64 r31, .int .i64 r32, .slice A24r4_6_ r33.length c24r4_6_], .agg #[.int .i64 r34, .int .i64 r35, .int .i64 r36, .int .i64 r37], .bool r38]) ∧ (b 5 = true → (m5_ : Value) = .tuple #[.agg #[.slice A24r4_0_ r27.length c24r4_0_, .int .i64 r28, .int .i64 r29, .int .i64 r30, .int .i64 r31, .int .i64 r32, .slice A24r4_6_ r33.length c24r4_6_], .agg #[.int .i64 r34, .int .i64 r35, .int .i64 r36, .int .i64 r37], .bool r38]) ∧ (b 6 = true → (m6_ : Value) = .agg #[.slice A24r4_0_ r27.length c24r4_0_, .int .i64 r28, .int .i64 r29, .int .i64 r30, .int .i64 r31, .int .i64 r32, .slice A24r4_6_ r33.length c24r4_6_]) ∧ (b 9 = true → (m9_ : Value) = .pointer (some ⟨g24r9_, 0, none⟩)) ∧ (b 10 = true → (m10_ : Value) = .pointer (some ⟨g24r10_, 0, none⟩))) HT_.out HW_.out (by kernel_rfl) (by kernel_rfl) ?_ ?_ ?_
  · exact ⟨none, 0, none, 0, none, 0, none, 0, 0, 0, .bool false, .bool false, .bool false, .bool false, .bool false, .bool false, by simp only [putSel, Bool.false_eq_true, if_false], HD221.out, fun h_ => absurd h_ (by decide), fun h_ => absurd h_ (by decide), fun h_ => absurd h_ (by decide), fun h_ => absurd h_ (by decide), fun h_ => absurd h_ (by decide), fun h_ => absurd h_ (by decide), fun h_ => absurd h_ (by decide), fun h_ => absurd h_ (by decide), fun h_ => absurd h_ (by decide), fun h_ => absurd h_ (by decide), fun h_ => absurd h_ (by decide), fun h_ => absurd h_ (by decide), fun h_ => absurd h_ (by decide), fun h_ => absurd h_ (by decide), fun h_ => absurd h_ (by decide), fun h_ => absurd h_ (by decide)⟩
  · skip
    clear HD221
    refine steps_cons ?_ ?_
    · rintro b a w' ⟨A24r1_0_, c24r1_0_, A24r1_6_, c24r1_6_, A24r4_0_, c24r4_0_, A24r4_6_, c24r4_6_, g24r9_, g24r10_, m1_, m4_, m5_, m6_, m9_, m10_, ha, Q_HD221, Q_O222, Q_O223, Q_O224, Q_O225, Q_BZ226, Q_Z228, Q_BZ229, Q_Z231, Q_BK227, Q_BK230, Q_X1_, Q_X4_, Q_X5_, Q_X6_, Q_X9_, Q_X10_⟩ hb_ hon hoff
      refine ⟨_, rfl, fun K hK => ?_⟩
      have e2 : a.tmps[2]? = some (.pointer (some ⟨w.heap.size, 0, none⟩)) := by rw [ha]; exact (putSel_off rfl).trans rfl
      replace ha := Aside0.mk ha
      have HD221 := Aside0.mk Q_HD221
      have hc0_ : w'.cell? ⟨w.heap.size, 0, none⟩ = some (.slice A0_0 l0_0.length c0_0) := (blk_cell (blk_below BK1.out HD221.out) 0).trans rfl
      have hc1_ : w'.cell? ⟨w.heap.size, 1, none⟩ = some (.int .i64 a0_1) := (blk_cell (blk_below BK1.out HD221.out) 1).trans rfl
      have hc2_ : w'.cell? ⟨w.heap.size, 2, none⟩ = some (.int .i64 a0_2) := (blk_cell (blk_below BK1.out HD221.out) 2).trans rfl
      have hc3_ : w'.cell? ⟨w.heap.size, 3, none⟩ = some (.int .i64 a0_3) := (blk_cell (blk_below BK1.out HD221.out) 3).trans rfl
      have hc4_ : w'.cell? ⟨w.heap.size, 4, none⟩ = some (.int .i64 a0_4) := (blk_cell (blk_below BK1.out HD221.out) 4).trans rfl
      have hc5_ : w'.cell? ⟨w.heap.size, 5, none⟩ = some (.int .i64 a0_5) := (blk_cell (blk_below BK1.out HD221.out) 5).trans rfl
      have hc6_ : w'.cell? ⟨w.heap.size, 6, none⟩ = some (.slice A0_6 l0_6.length c0_6) := (blk_cell (blk_below BK1.out HD221.out) 6).trans rfl
      refine value_ (w1 := w') (v := .agg #[.slice A0_0 l0_0.length c0_0, .int .i64 a0_1, .int .i64 a0_2, .int .i64 a0_3, .int .i64 a0_4, .int .i64 a0_5, .slice A0_6 l0_6.length c0_6]) (by rfl) rfl ?_ ?_
      · go_simp
        (try simp only [i64_w])
        try rfl
      refine hK.out _ _ ⟨A24r1_0_, c24r1_0_, A24r1_6_, c24r1_6_, A24r4_0_, c24r4_0_, A24r4_6_, c24r4_6_, g24r9_, g24r10_, m1_, m4_, m5_, m6_, m9_, m10_, (by rw [ha.out]; exact putSel_upk 0 hb_ rfl rfl rfl), Q_HD221, fun h0_ _ => absurd ((hoff 1 (by kernel_rfl)).symm.trans h0_) (by decide), fun h0_ _ => absurd ((hoff 1 (by kernel_rfl)).symm.trans h0_) (by decide), fun h0_ => absurd ((hoff 4 (by kernel_rfl)).symm.trans h0_) (by decide), fun h0_ => absurd ((hoff 4 (by kernel_rfl)).symm.trans h0_) (by decide), Q_BZ226, Q_Z228, Q_BZ229, Q_Z231, fun _ h1_ => absurd ((hoff 11 (by kernel_rfl)).symm.trans h1_) (by decide), fun _ h1_ => absurd ((hoff 12 (by kernel_rfl)).symm.trans h1_) (by decide), fun h0_ => absurd ((hoff 1 (by kernel_rfl)).symm.trans h0_) (by decide), fun h0_ => absurd ((hoff 4 (by kernel_rfl)).symm.trans h0_) (by decide), fun h0_ => absurd ((hoff 5 (by kernel_rfl)).symm.trans h0_) (by decide), fun h0_ => absurd ((hoff 6 (by kernel_rfl)).symm.trans h0_) (by decide), Q_X9_, Q_X10_⟩
    refine steps_cons ?_ ?_
    · rintro b a w' ⟨A24r1_0_, c24r1_0_, A24r1_6_, c24r1_6_, A24r4_0_, c24r4_0_, A24r4_6_, c24r4_6_, g24r9_, g24r10_, m1_, m4_, m5_, m6_, m9_, m10_, ha, Q_HD221, Q_O222, Q_O223, Q_O224, Q_O225, Q_BZ226, Q_Z228, Q_BZ229, Q_Z231, Q_BK227, Q_BK230, Q_X1_, Q_X4_, Q_X5_, Q_X6_, Q_X9_, Q_X10_⟩ hb_ hon hoff
      refine ⟨_, rfl, fun K hK => ?_⟩
      have e97 : a.tmps[97]? = some (.agg #[.slice A0_0 l0_0.length c0_0, .int .i64 a0_1, .int .i64 a0_2, .int .i64 a0_3, .int .i64 a0_4, .int .i64 a0_5, .slice A0_6 l0_6.length c0_6]) := by rw [ha]; exact putSel_on (e := (0, 97, .agg #[.slice A0_0 l0_0.length c0_0, .int .i64 a0_1, .int .i64 a0_2, .int .i64 a0_3, .int .i64 a0_4, .int .i64 a0_5, .slice A0_6 l0_6.length c0_6])) 0 rfl rfl (hon 0 (by kernel_rfl)) rfl
      replace ha := Aside0.mk ha
      have HD221 := Aside0.mk Q_HD221
      refine goes_ Try.func37 (by kernel_rfl) rfl #[.agg #[.slice A0_0 l0_0.length c0_0, .int .i64 a0_1, .int .i64 a0_2, .int .i64 a0_3, .int .i64 a0_4, .int .i64 a0_5, .slice A0_6 l0_6.length c0_6]] (by rfl) rfl rfl (by first | (simp only [List.map_toArray, List.map_cons, List.map_nil, Act.eval, Array.getD_eq_getD_getElem?, Option.getD_some, e97]; done) | (simp only [List.map_toArray, List.map_cons, List.map_nil, Act.eval, Array.getD_eq_getD_getElem?, Option.getD_some, e97]; rfl)) ?_
      with_reducible refine (laws_toArena.calls k A0_0 c0_0 l0_0 a0_1 a0_2 a0_3 a0_4 a0_5 A0_6 c0_6 l0_6 r14 r15 r16 r17 r18 r19 r20 w' (Kd.C_below (Kd.C_below HR0_0.out HB.out) HD221.out) HC0_0.out (Kd.C_below (Kd.C_below HR0_6.out HB.out) HD221.out) HC0_6.out e21.out).mono ?_
      rintro e wn1_ ⟨v1_0, v1_6, rfl, h1_0, h1_6, hb⟩
      refine ⟨_, rfl, ?_⟩
      obtain ⟨A24r1_0_n, c24r1_0_n, rfl⟩ := Kd.S_slice h1_0
      obtain ⟨A24r1_6_n, c24r1_6_n, rfl⟩ := Kd.R_slice h1_6
      refine hK.out _ _ ⟨A24r1_0_n, c24r1_0_n, A24r1_6_n, c24r1_6_n, A24r4_0_, c24r4_0_, A24r4_6_, c24r4_6_, g24r9_, g24r10_, (.agg #[.slice A24r1_0_n r14.length c24r1_0_n, .int .i64 r15, .int .i64 r16, .int .i64 r17, .int .i64 r18, .int .i64 r19, .slice A24r1_6_n r20.length c24r1_6_n]), m4_, m5_, m6_, m9_, m10_, (by rw [ha.out]; exact putSel_upk 1 hb_ rfl rfl rfl), below_step HD221.out hb, fun _ _ => Kd.S_lower (Kd.S_mono (Kd.S_bound h1_0) (fun k_ hk => trivial)) (below_size HD221.out), fun _ _ => Kd.R_lower (Kd.R_mono (Kd.R_bound h1_6) (fun k_ hk => trivial)) (below_size HD221.out), fun h0_ => absurd ((hoff 4 (by kernel_rfl)).symm.trans h0_) (by decide), fun h0_ => absurd ((hoff 4 (by kernel_rfl)).symm.trans h0_) (by decide), fun h0_ h1_ => blk_below (Q_BZ226 h0_ h1_) hb, Q_Z228, fun h0_ h1_ => blk_below (Q_BZ229 h0_ h1_) hb, Q_Z231, fun _ h1_ => absurd ((hoff 11 (by kernel_rfl)).symm.trans h1_) (by decide), fun _ h1_ => absurd ((hoff 12 (by kernel_rfl)).symm.trans h1_) (by decide), fun _ => rfl, fun h0_ => absurd ((hoff 4 (by kernel_rfl)).symm.trans h0_) (by decide), fun h0_ => absurd ((hoff 5 (by kernel_rfl)).symm.trans h0_) (by decide), fun h0_ => absurd ((hoff 6 (by kernel_rfl)).symm.trans h0_) (by decide), Q_X9_, Q_X10_⟩
    refine steps_cons ?_ ?_
    · rintro b a w' ⟨A24r1_0_, c24r1_0_, A24r1_6_, c24r1_6_, A24r4_0_, c24r4_0_, A24r4_6_, c24r4_6_, g24r9_, g24r10_, m1_, m4_, m5_, m6_, m9_, m10_, ha, Q_HD221, Q_O222, Q_O223, Q_O224, Q_O225, Q_BZ226, Q_Z228, Q_BZ229, Q_Z231, Q_BK227, Q_BK230, Q_X1_, Q_X4_, Q_X5_, Q_X6_, Q_X9_, Q_X10_⟩ hb_ hon hoff
      refine ⟨_, rfl, fun K hK => ?_⟩
      have e3 : a.tmps[3]? = some (.pointer (some ⟨w.heap.size + 1, 0, none⟩)) := by rw [ha]; exact (putSel_off rfl).trans rfl
      replace ha := Aside0.mk ha
      have HD221 := Aside0.mk Q_HD221
      have hc0_ : w'.cell? ⟨w.heap.size + 1, 0, none⟩ = some (.int .i64 a1_0) := (blk_cell (blk_below BK2.out HD221.out) 0).trans rfl
      have hc1_ : w'.cell? ⟨w.heap.size + 1, 1, none⟩ = some (.int .i64 a1_1) := (blk_cell (blk_below BK2.out HD221.out) 1).trans rfl
      refine value_ (w1 := w') (v := .agg #[.int .i64 a1_0, .int .i64 a1_1]) (by rfl) rfl ?_ ?_
      · go_simp
        (try simp only [i64_w])
        try rfl
      refine hK.out _ _ ⟨A24r1_0_, c24r1_0_, A24r1_6_, c24r1_6_, A24r4_0_, c24r4_0_, A24r4_6_, c24r4_6_, g24r9_, g24r10_, m1_, m4_, m5_, m6_, m9_, m10_, (by rw [ha.out]; exact putSel_upk 2 hb_ rfl rfl rfl), Q_HD221, Q_O222, Q_O223, fun h0_ => absurd ((hoff 4 (by kernel_rfl)).symm.trans h0_) (by decide), fun h0_ => absurd ((hoff 4 (by kernel_rfl)).symm.trans h0_) (by decide), Q_BZ226, Q_Z228, Q_BZ229, Q_Z231, fun _ h1_ => absurd ((hoff 11 (by kernel_rfl)).symm.trans h1_) (by decide), fun _ h1_ => absurd ((hoff 12 (by kernel_rfl)).symm.trans h1_) (by decide), Q_X1_, fun h0_ => absurd ((hoff 4 (by kernel_rfl)).symm.trans h0_) (by decide), fun h0_ => absurd ((hoff 5 (by kernel_rfl)).symm.trans h0_) (by decide), fun h0_ => absurd ((hoff 6 (by kernel_rfl)).symm.trans h0_) (by decide), Q_X9_, Q_X10_⟩
    refine steps_cons ?_ ?_
    · rintro b a w' ⟨A24r1_0_, c24r1_0_, A24r1_6_, c24r1_6_, A24r4_0_, c24r4_0_, A24r4_6_, c24r4_6_, g24r9_, g24r10_, m1_, m4_, m5_, m6_, m9_, m10_, ha, Q_HD221, Q_O222, Q_O223, Q_O224, Q_O225, Q_BZ226, Q_Z228, Q_BZ229, Q_Z231, Q_BK227, Q_BK230, Q_X1_, Q_X4_, Q_X5_, Q_X6_, Q_X9_, Q_X10_⟩ hb_ hon hoff
      refine ⟨_, rfl, fun K hK => ?_⟩
      have e99 : a.tmps[99]? = some (.agg #[.int .i64 a1_0, .int .i64 a1_1]) := by rw [ha]; exact putSel_on (e := (2, 99, .agg #[.int .i64 a1_0, .int .i64 a1_1])) 2 rfl rfl (hon 2 (by kernel_rfl)) rfl
      replace ha := Aside0.mk ha
      have HD221 := Aside0.mk Q_HD221
      have O222 := Aside0.mk (Q_O222 (hon 1 (by kernel_rfl)) (hoff 4 (by kernel_rfl)))
      have O223 := Aside0.mk (Q_O223 (hon 1 (by kernel_rfl)) (hoff 4 (by kernel_rfl)))
      refine goes_ Try.func38 (by kernel_rfl) rfl #[.agg #[.int .i64 a1_0, .int .i64 a1_1]] (by rfl) rfl rfl (by first | (simp only [List.map_toArray, List.map_cons, List.map_nil, Act.eval, Array.getD_eq_getD_getElem?, Option.getD_some, e99]; done) | (simp only [List.map_toArray, List.map_cons, List.map_nil, Act.eval, Array.getD_eq_getD_getElem?, Option.getD_some, e99]; rfl)) ?_
      with_reducible refine (laws_toAsked.calls a1_0 a1_1 r24 r25 w'  e26.out).mono ?_
      rintro e wn3_ ⟨rfl, hb⟩
      refine ⟨_, rfl, ?_⟩
      refine hK.out _ _ ⟨A24r1_0_, c24r1_0_, A24r1_6_, c24r1_6_, A24r4_0_, c24r4_0_, A24r4_6_, c24r4_6_, g24r9_, g24r10_, m1_, m4_, m5_, m6_, m9_, m10_, (by rw [ha.out]; exact putSel_upk 3 hb_ rfl rfl rfl), below_step HD221.out hb, fun _ _ => Kd.S_below O222.out hb, fun _ _ => Kd.R_below O223.out hb, fun h0_ => absurd ((hoff 4 (by kernel_rfl)).symm.trans h0_) (by decide), fun h0_ => absurd ((hoff 4 (by kernel_rfl)).symm.trans h0_) (by decide), fun h0_ h1_ => blk_below (Q_BZ226 h0_ h1_) hb, Q_Z228, fun h0_ h1_ => blk_below (Q_BZ229 h0_ h1_) hb, Q_Z231, fun _ h1_ => absurd ((hoff 11 (by kernel_rfl)).symm.trans h1_) (by decide), fun _ h1_ => absurd ((hoff 12 (by kernel_rfl)).symm.trans h1_) (by decide), Q_X1_, fun h0_ => absurd ((hoff 4 (by kernel_rfl)).symm.trans h0_) (by decide), fun h0_ => absurd ((hoff 5 (by kernel_rfl)).symm.trans h0_) (by decide), fun h0_ => absurd ((hoff 6 (by kernel_rfl)).symm.trans h0_) (by decide), Q_X9_, Q_X10_⟩
    refine steps_cons ?_ ?_
    · rintro b a w' ⟨A24r1_0_, c24r1_0_, A24r1_6_, c24r1_6_, A24r4_0_, c24r4_0_, A24r4_6_, c24r4_6_, g24r9_, g24r10_, m1_, m4_, m5_, m6_, m9_, m10_, ha, Q_HD221, Q_O222, Q_O223, Q_O224, Q_O225, Q_BZ226, Q_Z228, Q_BZ229, Q_Z231, Q_BK227, Q_BK230, Q_X1_, Q_X4_, Q_X5_, Q_X6_, Q_X9_, Q_X10_⟩ hb_ hon hoff
      refine ⟨_, rfl, fun K hK => ?_⟩
      have e98 : a.tmps[98]? = some (m1_) := by rw [ha]; exact putSel_on (e := (1, 98, m1_)) 1 rfl rfl (hon 1 (by kernel_rfl)) rfl
      rw [Q_X1_ (hon 1 (by kernel_rfl))] at e98
      have e100 : a.tmps[100]? = some (.agg #[.int .i64 r24, .int .i64 r25]) := by rw [ha]; exact putSel_on (e := (3, 100, .agg #[.int .i64 r24, .int .i64 r25])) 3 rfl rfl (hon 3 (by kernel_rfl)) rfl
      replace ha := Aside0.mk ha
      have HD221 := Aside0.mk Q_HD221
      have O222 := Aside0.mk (Q_O222 (hon 1 (by kernel_rfl)) hb_)
      have O223 := Aside0.mk (Q_O223 (hon 1 (by kernel_rfl)) hb_)
      refine goes_ Try.func39 (by kernel_rfl) rfl #[.agg #[.slice A24r1_0_ r14.length c24r1_0_, .int .i64 r15, .int .i64 r16, .int .i64 r17, .int .i64 r18, .int .i64 r19, .slice A24r1_6_ r20.length c24r1_6_], .agg #[.int .i64 r24, .int .i64 r25]] (by rfl) rfl rfl (by first | (simp only [List.map_toArray, List.map_cons, List.map_nil, Act.eval, Array.getD_eq_getD_getElem?, Option.getD_some, e98, e100]; done) | (simp only [List.map_toArray, List.map_cons, List.map_nil, Act.eval, Array.getD_eq_getD_getElem?, Option.getD_some, e98, e100]; rfl)) ?_
      with_reducible refine (impl_Give.calls k A24r1_0_ c24r1_0_ r14 r15 r16 r17 r18 r19 A24r1_6_ c24r1_6_ r20 r24 r25 r27 r28 r29 r30 r31 r32 r33 r34 r35 r36 r37 r38 w' (Kd.S_reads' O222.out).2.2 (Kd.S_reads' O222.out).2.1 (Kd.R_reads' O223.out).2.2 (Kd.R_reads' O223.out).2.1 e78.out).mono ?_
      rintro e wn4_ ⟨v4_0, v4_6, rfl, h4_0, h4_6, hb⟩
      refine ⟨_, rfl, ?_⟩
      obtain ⟨A24r4_0_n, c24r4_0_n, rfl⟩ := Kd.S_slice h4_0
      obtain ⟨A24r4_6_n, c24r4_6_n, rfl⟩ := Kd.R_slice h4_6
      refine hK.out _ _ ⟨A24r1_0_, c24r1_0_, A24r1_6_, c24r1_6_, A24r4_0_n, c24r4_0_n, A24r4_6_n, c24r4_6_n, g24r9_, g24r10_, m1_, (.tuple #[.agg #[.slice A24r4_0_n r27.length c24r4_0_n, .int .i64 r28, .int .i64 r29, .int .i64 r30, .int .i64 r31, .int .i64 r32, .slice A24r4_6_n r33.length c24r4_6_n], .agg #[.int .i64 r34, .int .i64 r35, .int .i64 r36, .int .i64 r37], .bool r38]), m5_, m6_, m9_, m10_, (by rw [ha.out]; exact putSel_upk 4 hb_ rfl rfl rfl), below_step HD221.out hb, fun _ h1_ => absurd ((up_self b 4).symm.trans h1_) (by decide), fun _ h1_ => absurd ((up_self b 4).symm.trans h1_) (by decide), fun _ => Kd.S_lower (Kd.S_mono (Kd.S_bound h4_0) (fun k_ hk => trivial)) (below_size HD221.out), fun _ => Kd.R_lower (Kd.R_mono (Kd.R_bound h4_6) (fun k_ hk => trivial)) (below_size HD221.out), fun h0_ h1_ => blk_below (Q_BZ226 h0_ h1_) hb, Q_Z228, fun h0_ h1_ => blk_below (Q_BZ229 h0_ h1_) hb, Q_Z231, fun _ h1_ => absurd ((hoff 11 (by kernel_rfl)).symm.trans h1_) (by decide), fun _ h1_ => absurd ((hoff 12 (by kernel_rfl)).symm.trans h1_) (by decide), Q_X1_, fun _ => rfl, fun h0_ => absurd ((hoff 5 (by kernel_rfl)).symm.trans h0_) (by decide), fun h0_ => absurd ((hoff 6 (by kernel_rfl)).symm.trans h0_) (by decide), Q_X9_, Q_X10_⟩
    refine steps_cons ?_ ?_
    · rintro b a w' ⟨A24r1_0_, c24r1_0_, A24r1_6_, c24r1_6_, A24r4_0_, c24r4_0_, A24r4_6_, c24r4_6_, g24r9_, g24r10_, m1_, m4_, m5_, m6_, m9_, m10_, ha, Q_HD221, Q_O222, Q_O223, Q_O224, Q_O225, Q_BZ226, Q_Z228, Q_BZ229, Q_Z231, Q_BK227, Q_BK230, Q_X1_, Q_X4_, Q_X5_, Q_X6_, Q_X9_, Q_X10_⟩ hb_ hon hoff
      refine ⟨_, rfl, fun K hK => ?_⟩
      have e101 : a.tmps[101]? = some (m4_) := by rw [ha]; exact putSel_on (e := (4, 101, m4_)) 4 rfl rfl (hon 4 (by kernel_rfl)) rfl
      rw [Q_X4_ (hon 4 (by kernel_rfl))] at e101
      replace ha := Aside0.mk ha
      have HD221 := Aside0.mk Q_HD221
      have O224 := Aside0.mk (Q_O224 (hon 4 (by kernel_rfl)))
      have O225 := Aside0.mk (Q_O225 (hon 4 (by kernel_rfl)))
      refine value_ (w1 := w') (v := .tuple #[.agg #[.slice A24r4_0_ r27.length c24r4_0_, .int .i64 r28, .int .i64 r29, .int .i64 r30, .int .i64 r31, .int .i64 r32, .slice A24r4_6_ r33.length c24r4_6_], .agg #[.int .i64 r34, .int .i64 r35, .int .i64 r36, .int .i64 r37], .bool r38]) (by rfl) rfl ?_ ?_
      · go_simp
        (try simp only [i64_w])
        try rfl
      refine hK.out _ _ ⟨A24r1_0_, c24r1_0_, A24r1_6_, c24r1_6_, A24r4_0_, c24r4_0_, A24r4_6_, c24r4_6_, g24r9_, g24r10_, m1_, m4_, (.tuple #[.agg #[.slice A24r4_0_ r27.length c24r4_0_, .int .i64 r28, .int .i64 r29, .int .i64 r30, .int .i64 r31, .int .i64 r32, .slice A24r4_6_ r33.length c24r4_6_], .agg #[.int .i64 r34, .int .i64 r35, .int .i64 r36, .int .i64 r37], .bool r38]), m6_, m9_, m10_, (by rw [ha.out]; exact putSel_upk 5 hb_ rfl rfl rfl), Q_HD221, fun _ h1_ => absurd ((hon 4 (by kernel_rfl)).symm.trans h1_) (by decide), fun _ h1_ => absurd ((hon 4 (by kernel_rfl)).symm.trans h1_) (by decide), Q_O224, Q_O225, Q_BZ226, Q_Z228, Q_BZ229, Q_Z231, fun _ h1_ => absurd ((hoff 11 (by kernel_rfl)).symm.trans h1_) (by decide), fun _ h1_ => absurd ((hoff 12 (by kernel_rfl)).symm.trans h1_) (by decide), Q_X1_, Q_X4_, fun _ => rfl, fun h0_ => absurd ((hoff 6 (by kernel_rfl)).symm.trans h0_) (by decide), Q_X9_, Q_X10_⟩
    refine steps_cons ?_ ?_
    · rintro b a w' ⟨A24r1_0_, c24r1_0_, A24r1_6_, c24r1_6_, A24r4_0_, c24r4_0_, A24r4_6_, c24r4_6_, g24r9_, g24r10_, m1_, m4_, m5_, m6_, m9_, m10_, ha, Q_HD221, Q_O222, Q_O223, Q_O224, Q_O225, Q_BZ226, Q_Z228, Q_BZ229, Q_Z231, Q_BK227, Q_BK230, Q_X1_, Q_X4_, Q_X5_, Q_X6_, Q_X9_, Q_X10_⟩ hb_ hon hoff
      refine ⟨_, rfl, fun K hK => ?_⟩
      have e96 : a.tmps[96]? = some (m5_) := by rw [ha]; exact putSel_on (e := (5, 96, m5_)) 5 rfl rfl (hon 5 (by kernel_rfl)) rfl
      rw [Q_X5_ (hon 5 (by kernel_rfl))] at e96
      replace ha := Aside0.mk ha
      have HD221 := Aside0.mk Q_HD221
      have O224 := Aside0.mk (Q_O224 (hon 4 (by kernel_rfl)))
      have O225 := Aside0.mk (Q_O225 (hon 4 (by kernel_rfl)))
      refine value_ (w1 := w') (v := .agg #[.slice A24r4_0_ r27.length c24r4_0_, .int .i64 r28, .int .i64 r29, .int .i64 r30, .int .i64 r31, .int .i64 r32, .slice A24r4_6_ r33.length c24r4_6_]) (by rfl) rfl ?_ ?_
      · go_simp
        (try simp only [i64_w])
        try rfl
      refine hK.out _ _ ⟨A24r1_0_, c24r1_0_, A24r1_6_, c24r1_6_, A24r4_0_, c24r4_0_, A24r4_6_, c24r4_6_, g24r9_, g24r10_, m1_, m4_, m5_, (.agg #[.slice A24r4_0_ r27.length c24r4_0_, .int .i64 r28, .int .i64 r29, .int .i64 r30, .int .i64 r31, .int .i64 r32, .slice A24r4_6_ r33.length c24r4_6_]), m9_, m10_, (by rw [ha.out]; exact putSel_upk 6 hb_ rfl rfl rfl), Q_HD221, fun _ h1_ => absurd ((hon 4 (by kernel_rfl)).symm.trans h1_) (by decide), fun _ h1_ => absurd ((hon 4 (by kernel_rfl)).symm.trans h1_) (by decide), Q_O224, Q_O225, Q_BZ226, Q_Z228, Q_BZ229, Q_Z231, fun _ h1_ => absurd ((hoff 11 (by kernel_rfl)).symm.trans h1_) (by decide), fun _ h1_ => absurd ((hoff 12 (by kernel_rfl)).symm.trans h1_) (by decide), Q_X1_, Q_X4_, Q_X5_, fun _ => rfl, Q_X9_, Q_X10_⟩
    refine steps_cons ?_ ?_
    · rintro b a w' ⟨A24r1_0_, c24r1_0_, A24r1_6_, c24r1_6_, A24r4_0_, c24r4_0_, A24r4_6_, c24r4_6_, g24r9_, g24r10_, m1_, m4_, m5_, m6_, m9_, m10_, ha, Q_HD221, Q_O222, Q_O223, Q_O224, Q_O225, Q_BZ226, Q_Z228, Q_BZ229, Q_Z231, Q_BK227, Q_BK230, Q_X1_, Q_X4_, Q_X5_, Q_X6_, Q_X9_, Q_X10_⟩ hb_ hon hoff
      refine ⟨_, rfl, fun K hK => ?_⟩
      have e96 : a.tmps[96]? = some (m5_) := by rw [ha]; exact putSel_on (e := (5, 96, m5_)) 5 rfl rfl (hon 5 (by kernel_rfl)) rfl
      rw [Q_X5_ (hon 5 (by kernel_rfl))] at e96
      replace ha := Aside0.mk ha
      have HD221 := Aside0.mk Q_HD221
      have O224 := Aside0.mk (Q_O224 (hon 4 (by kernel_rfl)))
      have O225 := Aside0.mk (Q_O225 (hon 4 (by kernel_rfl)))
      refine value_ (w1 := w') (v := .agg #[.int .i64 r34, .int .i64 r35, .int .i64 r36, .int .i64 r37]) (by rfl) rfl ?_ ?_
      · go_simp
        (try simp only [i64_w])
        try rfl
      refine hK.out _ _ ⟨A24r1_0_, c24r1_0_, A24r1_6_, c24r1_6_, A24r4_0_, c24r4_0_, A24r4_6_, c24r4_6_, g24r9_, g24r10_, m1_, m4_, m5_, m6_, m9_, m10_, (by rw [ha.out]; exact putSel_upk 7 hb_ rfl rfl rfl), Q_HD221, fun _ h1_ => absurd ((hon 4 (by kernel_rfl)).symm.trans h1_) (by decide), fun _ h1_ => absurd ((hon 4 (by kernel_rfl)).symm.trans h1_) (by decide), Q_O224, Q_O225, Q_BZ226, Q_Z228, Q_BZ229, Q_Z231, Q_BK227, fun _ h1_ => absurd ((hoff 12 (by kernel_rfl)).symm.trans h1_) (by decide), Q_X1_, Q_X4_, Q_X5_, Q_X6_, Q_X9_, Q_X10_⟩
    refine steps_cons ?_ ?_
    · rintro b a w' ⟨A24r1_0_, c24r1_0_, A24r1_6_, c24r1_6_, A24r4_0_, c24r4_0_, A24r4_6_, c24r4_6_, g24r9_, g24r10_, m1_, m4_, m5_, m6_, m9_, m10_, ha, Q_HD221, Q_O222, Q_O223, Q_O224, Q_O225, Q_BZ226, Q_Z228, Q_BZ229, Q_Z231, Q_BK227, Q_BK230, Q_X1_, Q_X4_, Q_X5_, Q_X6_, Q_X9_, Q_X10_⟩ hb_ hon hoff
      refine ⟨_, rfl, fun K hK => ?_⟩
      have e96 : a.tmps[96]? = some (m5_) := by rw [ha]; exact putSel_on (e := (5, 96, m5_)) 5 rfl rfl (hon 5 (by kernel_rfl)) rfl
      rw [Q_X5_ (hon 5 (by kernel_rfl))] at e96
      replace ha := Aside0.mk ha
      have HD221 := Aside0.mk Q_HD221
      have O224 := Aside0.mk (Q_O224 (hon 4 (by kernel_rfl)))
      have O225 := Aside0.mk (Q_O225 (hon 4 (by kernel_rfl)))
      refine value_ (w1 := w') (v := .bool r38) (by rfl) rfl ?_ ?_
      · go_simp
        (try simp only [i64_w])
        try rfl
      refine hK.out _ _ ⟨A24r1_0_, c24r1_0_, A24r1_6_, c24r1_6_, A24r4_0_, c24r4_0_, A24r4_6_, c24r4_6_, g24r9_, g24r10_, m1_, m4_, m5_, m6_, m9_, m10_, (by rw [ha.out]; exact putSel_upk 8 hb_ rfl rfl rfl), Q_HD221, fun _ h1_ => absurd ((hon 4 (by kernel_rfl)).symm.trans h1_) (by decide), fun _ h1_ => absurd ((hon 4 (by kernel_rfl)).symm.trans h1_) (by decide), Q_O224, Q_O225, Q_BZ226, Q_Z228, Q_BZ229, Q_Z231, Q_BK227, Q_BK230, Q_X1_, Q_X4_, Q_X5_, Q_X6_, Q_X9_, Q_X10_⟩
    refine steps_cons ?_ ?_
    · rintro b a w' ⟨A24r1_0_, c24r1_0_, A24r1_6_, c24r1_6_, A24r4_0_, c24r4_0_, A24r4_6_, c24r4_6_, g24r9_, g24r10_, m1_, m4_, m5_, m6_, m9_, m10_, ha, Q_HD221, Q_O222, Q_O223, Q_O224, Q_O225, Q_BZ226, Q_Z228, Q_BZ229, Q_Z231, Q_BK227, Q_BK230, Q_X1_, Q_X4_, Q_X5_, Q_X6_, Q_X9_, Q_X10_⟩ hb_ hon hoff
      refine ⟨_, rfl, fun K hK => ?_⟩
      replace ha := Aside0.mk ha
      have HD221 := Aside0.mk Q_HD221
      refine box_step ?hg (N := 16) ?hd (cs := #[.slice none 0 0, .int .i64 0, .int .i64 0, .int .i64 0, .int .i64 0, .int .i64 0, .slice none 0 0]) (t := 70) ?hr ?_; (case hd => rfl); (case hg => rfl); (case hr => first | (go_simp; done) | (go_simp; rfl))
      intro g24r9_n hg wn9_ hbox hb
      refine hK.out _ _ ⟨A24r1_0_, c24r1_0_, A24r1_6_, c24r1_6_, A24r4_0_, c24r4_0_, A24r4_6_, c24r4_6_, g24r9_n, g24r10_, m1_, m4_, m5_, m6_, (.pointer (some ⟨g24r9_n, 0, none⟩)), m10_, (by rw [ha.out]; exact putSel_upk 9 hb_ rfl rfl rfl), below_step HD221.out hb, fun h0_ h1_ => Kd.S_below (Q_O222 h0_ h1_) hb, fun h0_ h1_ => Kd.R_below (Q_O223 h0_ h1_) hb, fun h0_ => Kd.S_below (Q_O224 h0_) hb, fun h0_ => Kd.R_below (Q_O225 h0_) hb, fun _ _ => hbox, fun _ => (by rw [hg]; exact below_size HD221.out), fun h0_ h1_ => blk_below (Q_BZ229 h0_ h1_) hb, Q_Z231, fun _ h1_ => absurd ((hoff 11 (by kernel_rfl)).symm.trans h1_) (by decide), fun _ h1_ => absurd ((hoff 12 (by kernel_rfl)).symm.trans h1_) (by decide), Q_X1_, Q_X4_, Q_X5_, Q_X6_, fun _ => rfl, Q_X10_⟩
    refine steps_cons ?_ ?_
    · rintro b a w' ⟨A24r1_0_, c24r1_0_, A24r1_6_, c24r1_6_, A24r4_0_, c24r4_0_, A24r4_6_, c24r4_6_, g24r9_, g24r10_, m1_, m4_, m5_, m6_, m9_, m10_, ha, Q_HD221, Q_O222, Q_O223, Q_O224, Q_O225, Q_BZ226, Q_Z228, Q_BZ229, Q_Z231, Q_BK227, Q_BK230, Q_X1_, Q_X4_, Q_X5_, Q_X6_, Q_X9_, Q_X10_⟩ hb_ hon hoff
      refine ⟨_, rfl, fun K hK => ?_⟩
      replace ha := Aside0.mk ha
      have HD221 := Aside0.mk Q_HD221
      refine box_step ?hg (N := 17) ?hd (cs := #[.int .i64 0, .int .i64 0, .int .i64 0, .int .i64 0]) (t := 32) ?hr ?_; (case hd => rfl); (case hg => rfl); (case hr => first | (go_simp; done) | (go_simp; rfl))
      intro g24r10_n hg wn10_ hbox hb
      refine hK.out _ _ ⟨A24r1_0_, c24r1_0_, A24r1_6_, c24r1_6_, A24r4_0_, c24r4_0_, A24r4_6_, c24r4_6_, g24r9_, g24r10_n, m1_, m4_, m5_, m6_, m9_, (.pointer (some ⟨g24r10_n, 0, none⟩)), (by rw [ha.out]; exact putSel_upk 10 hb_ rfl rfl rfl), below_step HD221.out hb, fun h0_ h1_ => Kd.S_below (Q_O222 h0_ h1_) hb, fun h0_ h1_ => Kd.R_below (Q_O223 h0_ h1_) hb, fun h0_ => Kd.S_below (Q_O224 h0_) hb, fun h0_ => Kd.R_below (Q_O225 h0_) hb, fun h0_ h1_ => blk_below (Q_BZ226 h0_ h1_) hb, Q_Z228, fun _ _ => hbox, fun _ => (by rw [hg]; exact below_size HD221.out), fun _ h1_ => absurd ((hoff 11 (by kernel_rfl)).symm.trans h1_) (by decide), fun _ h1_ => absurd ((hoff 12 (by kernel_rfl)).symm.trans h1_) (by decide), Q_X1_, Q_X4_, Q_X5_, Q_X6_, Q_X9_, fun _ => rfl⟩
    refine steps_cons ?_ ?_
    · rintro b a w' ⟨A24r1_0_, c24r1_0_, A24r1_6_, c24r1_6_, A24r4_0_, c24r4_0_, A24r4_6_, c24r4_6_, g24r9_, g24r10_, m1_, m4_, m5_, m6_, m9_, m10_, ha, Q_HD221, Q_O222, Q_O223, Q_O224, Q_O225, Q_BZ226, Q_Z228, Q_BZ229, Q_Z231, Q_BK227, Q_BK230, Q_X1_, Q_X4_, Q_X5_, Q_X6_, Q_X9_, Q_X10_⟩ hb_ hon hoff
      refine ⟨_, rfl, fun K hK => ?_⟩
      have e16 : a.tmps[16]? = some (m9_) := by rw [ha]; exact putSel_on (e := (9, 16, m9_)) 9 rfl rfl (hon 9 (by kernel_rfl)) rfl
      rw [Q_X9_ (hon 9 (by kernel_rfl))] at e16
      have e102 : a.tmps[102]? = some (m6_) := by rw [ha]; exact putSel_on (e := (6, 102, m6_)) 6 rfl rfl (hon 6 (by kernel_rfl)) rfl
      rw [Q_X6_ (hon 6 (by kernel_rfl))] at e102
      replace ha := Aside0.mk ha
      have HD221 := Aside0.mk Q_HD221
      have O224 := Aside0.mk (Q_O224 (hon 4 (by kernel_rfl)))
      have O225 := Aside0.mk (Q_O225 (hon 4 (by kernel_rfl)))
      have BZ226 := Aside0.mk (Q_BZ226 (hon 9 (by kernel_rfl)) hb_)
      have Z228 := Aside0.mk (Q_Z228 (hon 9 (by kernel_rfl)))
      have BZ229 := Aside0.mk (Q_BZ229 (hon 10 (by kernel_rfl)) (hoff 12 (by kernel_rfl)))
      have Z231 := Aside0.mk (Q_Z231 (hon 10 (by kernel_rfl)))
      have hs0_ : w'.cell? ⟨g24r9_, 0, none⟩ = some (.slice none 0 0) := (blk_cell BZ226.out 0).trans rfl
      have hf0_ := blk_frozen BZ226.out 0
      have hs1_ : w'.cell? ⟨g24r9_, 1, none⟩ = some (.int .i64 0) := (blk_cell BZ226.out 1).trans rfl
      have hf1_ := blk_frozen BZ226.out 1
      have hs2_ : w'.cell? ⟨g24r9_, 2, none⟩ = some (.int .i64 0) := (blk_cell BZ226.out 2).trans rfl
      have hf2_ := blk_frozen BZ226.out 2
      have hs3_ : w'.cell? ⟨g24r9_, 3, none⟩ = some (.int .i64 0) := (blk_cell BZ226.out 3).trans rfl
      have hf3_ := blk_frozen BZ226.out 3
      have hs4_ : w'.cell? ⟨g24r9_, 4, none⟩ = some (.int .i64 0) := (blk_cell BZ226.out 4).trans rfl
      have hf4_ := blk_frozen BZ226.out 4
      have hs5_ : w'.cell? ⟨g24r9_, 5, none⟩ = some (.int .i64 0) := (blk_cell BZ226.out 5).trans rfl
      have hf5_ := blk_frozen BZ226.out 5
      have hs6_ : w'.cell? ⟨g24r9_, 6, none⟩ = some (.slice none 0 0) := (blk_cell BZ226.out 6).trans rfl
      have hf6_ := blk_frozen BZ226.out 6
      have hl_ := blk_lt BZ226.out
      refine skip_ (w1 := ?_) (by rfl) rfl ?_ ?_
      rotate_left
      · go_simp
        rfl
      have hnew_ : ((World.setCell (World.setCell (World.setCell (World.setCell (World.setCell (World.setCell (World.setCell w' ⟨g24r9_, 0, none⟩ (.slice A24r4_0_ r27.length c24r4_0_)) ⟨g24r9_, 1, none⟩ (.int .i64 r28)) ⟨g24r9_, 2, none⟩ (.int .i64 r29)) ⟨g24r9_, 3, none⟩ (.int .i64 r30)) ⟨g24r9_, 4, none⟩ (.int .i64 r31)) ⟨g24r9_, 5, none⟩ (.int .i64 r32)) ⟨g24r9_, 6, none⟩ (.slice A24r4_6_ r33.length c24r4_6_))).heap[g24r9_]? = some (.cells #[.slice A24r4_0_ r27.length c24r4_0_, .int .i64 r28, .int .i64 r29, .int .i64 r30, .int .i64 r31, .int .i64 r32, .slice A24r4_6_ r33.length c24r4_6_] 70 (0, 0)) := (blk_put (cs := #[.slice A24r4_0_ r27.length c24r4_0_, .int .i64 r28, .int .i64 r29, .int .i64 r30, .int .i64 r31, .int .i64 r32, .slice none 0 0]) (cs' := #[.slice A24r4_0_ r27.length c24r4_0_, .int .i64 r28, .int .i64 r29, .int .i64 r30, .int .i64 r31, .int .i64 r32, .slice A24r4_6_ r33.length c24r4_6_]) (blk_put (cs := #[.slice A24r4_0_ r27.length c24r4_0_, .int .i64 r28, .int .i64 r29, .int .i64 r30, .int .i64 r31, .int .i64 0, .slice none 0 0]) (cs' := #[.slice A24r4_0_ r27.length c24r4_0_, .int .i64 r28, .int .i64 r29, .int .i64 r30, .int .i64 r31, .int .i64 r32, .slice none 0 0]) (blk_put (cs := #[.slice A24r4_0_ r27.length c24r4_0_, .int .i64 r28, .int .i64 r29, .int .i64 r30, .int .i64 0, .int .i64 0, .slice none 0 0]) (cs' := #[.slice A24r4_0_ r27.length c24r4_0_, .int .i64 r28, .int .i64 r29, .int .i64 r30, .int .i64 r31, .int .i64 0, .slice none 0 0]) (blk_put (cs := #[.slice A24r4_0_ r27.length c24r4_0_, .int .i64 r28, .int .i64 r29, .int .i64 0, .int .i64 0, .int .i64 0, .slice none 0 0]) (cs' := #[.slice A24r4_0_ r27.length c24r4_0_, .int .i64 r28, .int .i64 r29, .int .i64 r30, .int .i64 0, .int .i64 0, .slice none 0 0]) (blk_put (cs := #[.slice A24r4_0_ r27.length c24r4_0_, .int .i64 r28, .int .i64 0, .int .i64 0, .int .i64 0, .int .i64 0, .slice none 0 0]) (cs' := #[.slice A24r4_0_ r27.length c24r4_0_, .int .i64 r28, .int .i64 r29, .int .i64 0, .int .i64 0, .int .i64 0, .slice none 0 0]) (blk_put (cs := #[.slice A24r4_0_ r27.length c24r4_0_, .int .i64 0, .int .i64 0, .int .i64 0, .int .i64 0, .int .i64 0, .slice none 0 0]) (cs' := #[.slice A24r4_0_ r27.length c24r4_0_, .int .i64 r28, .int .i64 0, .int .i64 0, .int .i64 0, .int .i64 0, .slice none 0 0]) (blk_put (cs := #[.slice none 0 0, .int .i64 0, .int .i64 0, .int .i64 0, .int .i64 0, .int .i64 0, .slice none 0 0]) (cs' := #[.slice A24r4_0_ r27.length c24r4_0_, .int .i64 0, .int .i64 0, .int .i64 0, .int .i64 0, .int .i64 0, .slice none 0 0]) BZ226.out 0 (.slice A24r4_0_ r27.length c24r4_0_) rfl) 1 (.int .i64 r28) rfl) 2 (.int .i64 r29) rfl) 3 (.int .i64 r30) rfl) 4 (.int .i64 r31) rfl) 5 (.int .i64 r32) rfl) 6 (.slice A24r4_6_ r33.length c24r4_6_) rfl)
      have hg_ : w'.grownBy (World.setCell (World.setCell (World.setCell (World.setCell (World.setCell (World.setCell (World.setCell w' ⟨g24r9_, 0, none⟩ (.slice A24r4_0_ r27.length c24r4_0_)) ⟨g24r9_, 1, none⟩ (.int .i64 r28)) ⟨g24r9_, 2, none⟩ (.int .i64 r29)) ⟨g24r9_, 3, none⟩ (.int .i64 r30)) ⟨g24r9_, 4, none⟩ (.int .i64 r31)) ⟨g24r9_, 5, none⟩ (.int .i64 r32)) ⟨g24r9_, 6, none⟩ (.slice A24r4_6_ r33.length c24r4_6_)) (some g24r9_) := grown_set_ (grown_set_ (grown_set_ (grown_set_ (grown_set_ (grown_set_ (grown_set_ (World.grownBy.refl _ _) _ _) _ _) _ _) _ _) _ _) _ _) _ _
      generalize (World.setCell (World.setCell (World.setCell (World.setCell (World.setCell (World.setCell (World.setCell w' ⟨g24r9_, 0, none⟩ (.slice A24r4_0_ r27.length c24r4_0_)) ⟨g24r9_, 1, none⟩ (.int .i64 r28)) ⟨g24r9_, 2, none⟩ (.int .i64 r29)) ⟨g24r9_, 3, none⟩ (.int .i64 r30)) ⟨g24r9_, 4, none⟩ (.int .i64 r31)) ⟨g24r9_, 5, none⟩ (.int .i64 r32)) ⟨g24r9_, 6, none⟩ (.slice A24r4_6_ r33.length c24r4_6_)) = wn11_ at hnew_ hg_ ⊢
      refine hK.out _ _ ⟨A24r1_0_, c24r1_0_, A24r1_6_, c24r1_6_, A24r4_0_, c24r4_0_, A24r4_6_, c24r4_6_, g24r9_, g24r10_, m1_, m4_, m5_, m6_, m9_, m10_, (by rw [ha.out]; exact putSel_none (v := undef) rfl), below_grown_ HD221.out hg_ Z228.out, fun _ h1_ => absurd ((hon 4 (by kernel_rfl)).symm.trans h1_) (by decide), fun _ h1_ => absurd ((hon 4 (by kernel_rfl)).symm.trans h1_) (by decide), fun _ => Kd.S_mono (Kd.S_grown (Kd.S_types O224.out BZ226.out (by decide)) hg_ (fun k_ hk_ e_ => hk_.2 (Option.some.inj e_))) (fun _ h_ => h_.1), fun _ => Kd.R_mono (Kd.R_grown (Kd.R_types O225.out BZ226.out (by decide)) hg_ (fun k_ hk_ e_ => hk_.2 (Option.some.inj e_))) (fun _ h_ => h_.1), fun _ h1_ => absurd ((up_self b 11).symm.trans h1_) (by decide), Q_Z228, fun _ _ => blk_grown BZ229.out hg_ (fun e_ => Blk_ne BZ229.out BZ226.out (by decide) (Option.some.inj e_)), Q_Z231, fun _ _ => hnew_, fun _ h1_ => absurd ((hoff 12 (by kernel_rfl)).symm.trans h1_) (by decide), Q_X1_, Q_X4_, Q_X5_, Q_X6_, Q_X9_, Q_X10_⟩
    refine steps_cons ?_ ?_
    · rintro b a w' ⟨A24r1_0_, c24r1_0_, A24r1_6_, c24r1_6_, A24r4_0_, c24r4_0_, A24r4_6_, c24r4_6_, g24r9_, g24r10_, m1_, m4_, m5_, m6_, m9_, m10_, ha, Q_HD221, Q_O222, Q_O223, Q_O224, Q_O225, Q_BZ226, Q_Z228, Q_BZ229, Q_Z231, Q_BK227, Q_BK230, Q_X1_, Q_X4_, Q_X5_, Q_X6_, Q_X9_, Q_X10_⟩ hb_ hon hoff
      refine ⟨_, rfl, fun K hK => ?_⟩
      have e17 : a.tmps[17]? = some (m10_) := by rw [ha]; exact putSel_on (e := (10, 17, m10_)) 10 rfl rfl (hon 10 (by kernel_rfl)) rfl
      rw [Q_X10_ (hon 10 (by kernel_rfl))] at e17
      have e103 : a.tmps[103]? = some (.agg #[.int .i64 r34, .int .i64 r35, .int .i64 r36, .int .i64 r37]) := by rw [ha]; exact putSel_on (e := (7, 103, .agg #[.int .i64 r34, .int .i64 r35, .int .i64 r36, .int .i64 r37])) 7 rfl rfl (hon 7 (by kernel_rfl)) rfl
      replace ha := Aside0.mk ha
      have HD221 := Aside0.mk Q_HD221
      have O224 := Aside0.mk (Q_O224 (hon 4 (by kernel_rfl)))
      have O225 := Aside0.mk (Q_O225 (hon 4 (by kernel_rfl)))
      have Z228 := Aside0.mk (Q_Z228 (hon 9 (by kernel_rfl)))
      have BZ229 := Aside0.mk (Q_BZ229 (hon 10 (by kernel_rfl)) hb_)
      have Z231 := Aside0.mk (Q_Z231 (hon 10 (by kernel_rfl)))
      have BK227 := Aside0.mk (Q_BK227 (hon 9 (by kernel_rfl)) (hon 11 (by kernel_rfl)))
      have hs0_ : w'.cell? ⟨g24r10_, 0, none⟩ = some (.int .i64 0) := (blk_cell BZ229.out 0).trans rfl
      have hf0_ := blk_frozen BZ229.out 0
      have hs1_ : w'.cell? ⟨g24r10_, 1, none⟩ = some (.int .i64 0) := (blk_cell BZ229.out 1).trans rfl
      have hf1_ := blk_frozen BZ229.out 1
      have hs2_ : w'.cell? ⟨g24r10_, 2, none⟩ = some (.int .i64 0) := (blk_cell BZ229.out 2).trans rfl
      have hf2_ := blk_frozen BZ229.out 2
      have hs3_ : w'.cell? ⟨g24r10_, 3, none⟩ = some (.int .i64 0) := (blk_cell BZ229.out 3).trans rfl
      have hf3_ := blk_frozen BZ229.out 3
      have hl_ := blk_lt BZ229.out
      refine skip_ (w1 := ?_) (by rfl) rfl ?_ ?_
      rotate_left
      · go_simp
        rfl
      have hnew_ : ((World.setCell (World.setCell (World.setCell (World.setCell w' ⟨g24r10_, 0, none⟩ (.int .i64 r34)) ⟨g24r10_, 1, none⟩ (.int .i64 r35)) ⟨g24r10_, 2, none⟩ (.int .i64 r36)) ⟨g24r10_, 3, none⟩ (.int .i64 r37))).heap[g24r10_]? = some (.cells #[.int .i64 r34, .int .i64 r35, .int .i64 r36, .int .i64 r37] 32 (0, 0)) := (blk_put (cs := #[.int .i64 r34, .int .i64 r35, .int .i64 r36, .int .i64 0]) (cs' := #[.int .i64 r34, .int .i64 r35, .int .i64 r36, .int .i64 r37]) (blk_put (cs := #[.int .i64 r34, .int .i64 r35, .int .i64 0, .int .i64 0]) (cs' := #[.int .i64 r34, .int .i64 r35, .int .i64 r36, .int .i64 0]) (blk_put (cs := #[.int .i64 r34, .int .i64 0, .int .i64 0, .int .i64 0]) (cs' := #[.int .i64 r34, .int .i64 r35, .int .i64 0, .int .i64 0]) (blk_put (cs := #[.int .i64 0, .int .i64 0, .int .i64 0, .int .i64 0]) (cs' := #[.int .i64 r34, .int .i64 0, .int .i64 0, .int .i64 0]) BZ229.out 0 (.int .i64 r34) rfl) 1 (.int .i64 r35) rfl) 2 (.int .i64 r36) rfl) 3 (.int .i64 r37) rfl)
      have hg_ : w'.grownBy (World.setCell (World.setCell (World.setCell (World.setCell w' ⟨g24r10_, 0, none⟩ (.int .i64 r34)) ⟨g24r10_, 1, none⟩ (.int .i64 r35)) ⟨g24r10_, 2, none⟩ (.int .i64 r36)) ⟨g24r10_, 3, none⟩ (.int .i64 r37)) (some g24r10_) := grown_set_ (grown_set_ (grown_set_ (grown_set_ (World.grownBy.refl _ _) _ _) _ _) _ _) _ _
      generalize (World.setCell (World.setCell (World.setCell (World.setCell w' ⟨g24r10_, 0, none⟩ (.int .i64 r34)) ⟨g24r10_, 1, none⟩ (.int .i64 r35)) ⟨g24r10_, 2, none⟩ (.int .i64 r36)) ⟨g24r10_, 3, none⟩ (.int .i64 r37)) = wn12_ at hnew_ hg_ ⊢
      refine hK.out _ _ ⟨A24r1_0_, c24r1_0_, A24r1_6_, c24r1_6_, A24r4_0_, c24r4_0_, A24r4_6_, c24r4_6_, g24r9_, g24r10_, m1_, m4_, m5_, m6_, m9_, m10_, (by rw [ha.out]; exact putSel_none (v := undef) rfl), below_grown_ HD221.out hg_ Z231.out, fun _ h1_ => absurd ((hon 4 (by kernel_rfl)).symm.trans h1_) (by decide), fun _ h1_ => absurd ((hon 4 (by kernel_rfl)).symm.trans h1_) (by decide), fun _ => Kd.S_mono (Kd.S_grown (Kd.S_types O224.out BZ229.out (by decide)) hg_ (fun k_ hk_ e_ => hk_.2 (Option.some.inj e_))) (fun _ h_ => h_.1), fun _ => Kd.R_mono (Kd.R_grown (Kd.R_types O225.out BZ229.out (by decide)) hg_ (fun k_ hk_ e_ => hk_.2 (Option.some.inj e_))) (fun _ h_ => h_.1), fun _ h1_ => absurd ((hon 11 (by kernel_rfl)).symm.trans h1_) (by decide), Q_Z228, fun _ h1_ => absurd ((up_self b 12).symm.trans h1_) (by decide), Q_Z231, fun _ _ => blk_grown BK227.out hg_ (fun e_ => Blk_ne BK227.out BZ229.out (by decide) (Option.some.inj e_)), fun _ _ => hnew_, Q_X1_, Q_X4_, Q_X5_, Q_X6_, Q_X9_, Q_X10_⟩
    refine steps_cons ?_ ?_
    · rintro b a w' ⟨A24r1_0_, c24r1_0_, A24r1_6_, c24r1_6_, A24r4_0_, c24r4_0_, A24r4_6_, c24r4_6_, g24r9_, g24r10_, m1_, m4_, m5_, m6_, m9_, m10_, ha, Q_HD221, Q_O222, Q_O223, Q_O224, Q_O225, Q_BZ226, Q_Z228, Q_BZ229, Q_Z231, Q_BK227, Q_BK230, Q_X1_, Q_X4_, Q_X5_, Q_X6_, Q_X9_, Q_X10_⟩ hb_ hon hoff
      refine ⟨_, rfl, fun K hK => ?_⟩
      have e104 : a.tmps[104]? = some (.bool r38) := by rw [ha]; exact putSel_on (e := (8, 104, .bool r38)) 8 rfl rfl (hon 8 (by kernel_rfl)) rfl
      replace ha := Aside0.mk ha
      have HD221 := Aside0.mk Q_HD221
      have O224 := Aside0.mk (Q_O224 (hon 4 (by kernel_rfl)))
      have O225 := Aside0.mk (Q_O225 (hon 4 (by kernel_rfl)))
      have Z228 := Aside0.mk (Q_Z228 (hon 9 (by kernel_rfl)))
      have Z231 := Aside0.mk (Q_Z231 (hon 10 (by kernel_rfl)))
      have BK227 := Aside0.mk (Q_BK227 (hon 9 (by kernel_rfl)) (hon 11 (by kernel_rfl)))
      have BK230 := Aside0.mk (Q_BK230 (hon 10 (by kernel_rfl)) (hon 12 (by kernel_rfl)))
      refine value_ (w1 := w') (v := .bool r38) (by rfl) rfl ?_ ?_
      · go_simp
        (try simp only [i64_w])
        try rfl
      refine hK.out _ _ ⟨A24r1_0_, c24r1_0_, A24r1_6_, c24r1_6_, A24r4_0_, c24r4_0_, A24r4_6_, c24r4_6_, g24r9_, g24r10_, m1_, m4_, m5_, m6_, m9_, m10_, (by rw [ha.out]; exact putSel_upk 11 hb_ rfl rfl rfl), Q_HD221, fun _ h1_ => absurd ((hon 4 (by kernel_rfl)).symm.trans h1_) (by decide), fun _ h1_ => absurd ((hon 4 (by kernel_rfl)).symm.trans h1_) (by decide), Q_O224, Q_O225, fun _ h1_ => absurd ((hon 11 (by kernel_rfl)).symm.trans h1_) (by decide), Q_Z228, fun _ h1_ => absurd ((hon 12 (by kernel_rfl)).symm.trans h1_) (by decide), Q_Z231, Q_BK227, Q_BK230, Q_X1_, Q_X4_, Q_X5_, Q_X6_, Q_X9_, Q_X10_⟩
    exact steps_nil
  rintro b a w232 hall ⟨A24r1_0_, c24r1_0_, A24r1_6_, c24r1_6_, A24r4_0_, c24r4_0_, A24r4_6_, c24r4_6_, g24r9_, g24r10_, m1_, m4_, m5_, m6_, m9_, m10_, ha, Q_HD221, Q_O222, Q_O223, Q_O224, Q_O225, Q_BZ226, Q_Z228, Q_BZ229, Q_Z231, Q_BK227, Q_BK230, Q_X1_, Q_X4_, Q_X5_, Q_X6_, Q_X9_, Q_X10_⟩
  clear HD221
  have hb0_ := hall 0 (by kernel_rfl)
  have hb1_ := hall 1 (by kernel_rfl)
  have hb2_ := hall 2 (by kernel_rfl)
  have hb3_ := hall 3 (by kernel_rfl)
  have hb4_ := hall 4 (by kernel_rfl)
  have hb5_ := hall 5 (by kernel_rfl)
  have hb6_ := hall 6 (by kernel_rfl)
  have hb7_ := hall 7 (by kernel_rfl)
  have hb8_ := hall 8 (by kernel_rfl)
  have hb9_ := hall 9 (by kernel_rfl)
  have hb10_ := hall 10 (by kernel_rfl)
  have hb11_ := hall 11 (by kernel_rfl)
  have hb12_ := hall 12 (by kernel_rfl)
  have hb13_ := hall 13 (by kernel_rfl)
  subst ha
  obtain rfl := Q_X1_ hb1_
  obtain rfl := Q_X4_ hb4_
  obtain rfl := Q_X5_ hb5_
  obtain rfl := Q_X6_ hb6_
  obtain rfl := Q_X9_ hb9_
  obtain rfl := Q_X10_ hb10_
  simp only [putSel, hb0_, hb1_, hb2_, hb3_, hb4_, hb5_, hb6_, hb7_, hb8_, hb9_, hb10_, hb11_, hb12_, hb13_, if_true, Act.put, List.setIfInBounds_toArray, List.set_cons_zero, List.set_cons_succ]
  have HD221 := Aside0.mk Q_HD221
  clear Q_HD221
  clear Q_O222
  clear Q_O223
  have O224 := Aside0.mk (Q_O224 hb4_)
  clear Q_O224
  have O225 := Aside0.mk (Q_O225 hb4_)
  clear Q_O225
  clear Q_BZ226
  have Z228 := Aside0.mk (Q_Z228 hb9_)
  clear Q_Z228
  clear Q_BZ229
  have Z231 := Aside0.mk (Q_Z231 hb10_)
  clear Q_Z231
  have BK227 := Aside0.mk (Q_BK227 hb9_ hb11_)
  clear Q_BK227
  have BK230 := Aside0.mk (Q_BK230 hb10_ hb12_)
  clear Q_BK230
  clear hall hb0_ hb1_ hb2_ hb3_ hb4_ hb5_ hb6_ hb7_ hb8_ hb9_ hb10_ hb11_ hb12_ hb13_
  replace BK1 := Aside0.mk (blk_below BK1.out HD221.out)
  replace BK2 := Aside0.mk (blk_below BK2.out HD221.out)
  replace O40 := Aside0.mk (Kd.S_below O40.out HD221.out)
  replace O41 := Aside0.mk (Kd.R_below O41.out HD221.out)
  replace BK43 := Aside0.mk (blk_below BK43.out HD221.out)
  replace BK46 := Aside0.mk (blk_below BK46.out HD221.out)
  replace O79 := Aside0.mk (Kd.S_below O79.out HD221.out)
  replace O80 := Aside0.mk (Kd.R_below O80.out HD221.out)
  replace BK82 := Aside0.mk (blk_below BK82.out HD221.out)
  replace O224 := Aside0.mk (show Kd.S (Kd.slice 5 (Kd.int .u8)) 29 w232 w.heap.size (Seg w219.heap.size w232.heap.size w232 [29, 5]) (.slice A24r4_0_ r27.length c24r4_0_) r27 from Kd.S_lower (Kd.S_mono (Kd.S_bound O224.out) (fun k_ hk => ⟨hk.2.1, hk.2.2.1, hk.2.2.2⟩)) (below_size HB.out))
  replace O225 := Aside0.mk (show Kd.R (Kd.int .i64) 3 w232 w.heap.size (Seg w219.heap.size w232.heap.size w232 [3]) (.slice A24r4_6_ r33.length c24r4_6_) r33 from Kd.R_lower (Kd.R_mono (Kd.R_bound O225.out) (fun k_ hk => ⟨hk.2.1, hk.2.2.1, hk.2.2.2⟩)) (below_size HB.out))
  replace HB := Aside0.mk (below_step HB.out HD221.out)
  have Z233 := Aside0.mk (below_size HD221.out)
  clear HD221
  have Z234 := Aside0.mk (blk_lt BK227.out)
  have NS235 := Aside0.mk (show ¬ Seg w219.heap.size w232.heap.size w232 [29, 5] g24r9_ from fun hs_ => Ty_not hs_.2.2 BK227.out (by decide))
  have NS236 := Aside0.mk (show ¬ Seg w219.heap.size w232.heap.size w232 [3] g24r9_ from fun hs_ => Ty_not hs_.2.2 BK227.out (by decide))
  have Z237 := Aside0.mk (blk_lt BK230.out)
  have NS238 := Aside0.mk (show ¬ Seg w219.heap.size w232.heap.size w232 [29, 5] g24r10_ from fun hs_ => Ty_not hs_.2.2 BK230.out (by decide))
  have NS239 := Aside0.mk (show ¬ Seg w219.heap.size w232.heap.size w232 [3] g24r10_ from fun hs_ => Ty_not hs_.2.2 BK230.out (by decide))
  clear BK1 BK2
  have hz240 : w232.cell? ⟨g24r9_, 0, none⟩ = some (.slice A24r4_0_ r27.length c24r4_0_) := (blk_cell BK227.out 0).trans rfl
  have hz241 : w232.cell? ⟨g24r9_, 1, none⟩ = some (.int .i64 r28) := (blk_cell BK227.out 1).trans rfl
  have hz242 : w232.cell? ⟨g24r9_, 2, none⟩ = some (.int .i64 r29) := (blk_cell BK227.out 2).trans rfl
  have hz243 : w232.cell? ⟨g24r9_, 3, none⟩ = some (.int .i64 r30) := (blk_cell BK227.out 3).trans rfl
  have hz244 : w232.cell? ⟨g24r9_, 4, none⟩ = some (.int .i64 r31) := (blk_cell BK227.out 4).trans rfl
  have hz245 : w232.cell? ⟨g24r9_, 5, none⟩ = some (.int .i64 r32) := (blk_cell BK227.out 5).trans rfl
  have hz246 : w232.cell? ⟨g24r9_, 6, none⟩ = some (.slice A24r4_6_ r33.length c24r4_6_) := (blk_cell BK227.out 6).trans rfl
  have hl247 : g24r9_ < w232.heap.size := blk_lt BK227.out
  have hz248 : w232.cell? ⟨g5r9_, 0, none⟩ = some (.slice A5r4_0_ r27.length c5r4_0_) := (blk_cell BK43.out 0).trans rfl
  have hz249 : w232.cell? ⟨g5r9_, 1, none⟩ = some (.int .i64 r28) := (blk_cell BK43.out 1).trans rfl
  have hz250 : w232.cell? ⟨g5r9_, 2, none⟩ = some (.int .i64 r29) := (blk_cell BK43.out 2).trans rfl
  have hz251 : w232.cell? ⟨g5r9_, 3, none⟩ = some (.int .i64 r30) := (blk_cell BK43.out 3).trans rfl
  have hz252 : w232.cell? ⟨g5r9_, 4, none⟩ = some (.int .i64 r31) := (blk_cell BK43.out 4).trans rfl
  have hz253 : w232.cell? ⟨g5r9_, 5, none⟩ = some (.int .i64 r32) := (blk_cell BK43.out 5).trans rfl
  have hz254 : w232.cell? ⟨g5r9_, 6, none⟩ = some (.slice A5r4_6_ r33.length c5r4_6_) := (blk_cell BK43.out 6).trans rfl
  have hl255 : g5r9_ < w232.heap.size := blk_lt BK43.out
  go_wp2_with fail
  clear hz240 hz241 hz242 hz243 hz244 hz245 hz246 hl247 hz248 hz249 hz250 hz251 hz252 hz253 hz254 hl255
  have e257 := e112
  refine (laws_eqArena.calls k A24r4_0_ c24r4_0_ r27 r28 r29 r30 r31 r32 A24r4_6_ c24r4_6_ r33 A5r4_0_ c5r4_0_ r27 r28 r29 r30 r31 r32 A5r4_6_ c5r4_6_ r33 true w232 (Kd.S_reads' O224.out).2.2 (Kd.S_reads' O224.out).2.1 (Kd.R_reads' O225.out).2.2 (Kd.R_reads' O225.out).2.1 (Kd.S_reads' O40.out).2.2 (Kd.S_reads' O40.out).2.1 (Kd.R_reads' O41.out).2.2 (Kd.R_reads' O41.out).2.1 e257.out).mono ?_
  rintro e w256 ⟨rfl, hb⟩
  replace O40 := Aside0.mk (Kd.S_below O40.out hb)
  replace O41 := Aside0.mk (Kd.R_below O41.out hb)
  replace BK43 := Aside0.mk (blk_below BK43.out hb)
  replace BK46 := Aside0.mk (blk_below BK46.out hb)
  replace O79 := Aside0.mk (Kd.S_below O79.out hb)
  replace O80 := Aside0.mk (Kd.R_below O80.out hb)
  replace BK82 := Aside0.mk (blk_below BK82.out hb)
  replace O224 := Aside0.mk (Kd.S_below O224.out hb)
  replace O225 := Aside0.mk (Kd.R_below O225.out hb)
  replace BK227 := Aside0.mk (blk_below BK227.out hb)
  replace BK230 := Aside0.mk (blk_below BK230.out hb)
  have Z258 := Aside0.mk (below_size hb)
  replace HB := Aside0.mk (below_step HB.out hb)
  clear hb 
  clear O40 O41 BK43 O224 O225 BK227
  have hz259 : w256.cell? ⟨g24r10_, 0, none⟩ = some (.int .i64 r34) := (blk_cell BK230.out 0).trans rfl
  have hz260 : w256.cell? ⟨g24r10_, 1, none⟩ = some (.int .i64 r35) := (blk_cell BK230.out 1).trans rfl
  have hz261 : w256.cell? ⟨g24r10_, 2, none⟩ = some (.int .i64 r36) := (blk_cell BK230.out 2).trans rfl
  have hz262 : w256.cell? ⟨g24r10_, 3, none⟩ = some (.int .i64 r37) := (blk_cell BK230.out 3).trans rfl
  have hl263 : g24r10_ < w256.heap.size := blk_lt BK230.out
  have hz264 : w256.cell? ⟨g5r10_, 0, none⟩ = some (.int .i64 r34) := (blk_cell BK46.out 0).trans rfl
  have hz265 : w256.cell? ⟨g5r10_, 1, none⟩ = some (.int .i64 r35) := (blk_cell BK46.out 1).trans rfl
  have hz266 : w256.cell? ⟨g5r10_, 2, none⟩ = some (.int .i64 r36) := (blk_cell BK46.out 2).trans rfl
  have hz267 : w256.cell? ⟨g5r10_, 3, none⟩ = some (.int .i64 r37) := (blk_cell BK46.out 3).trans rfl
  have hl268 : g5r10_ < w256.heap.size := blk_lt BK46.out
  go_wp2_with fail
  clear hz259 hz260 hz261 hz262 hl263 hz264 hz265 hz266 hz267 hl268
  have e270 := e125
  refine (laws_eqWindow.calls r34 r35 r36 r37 r34 r35 r36 r37 true w256  e270.out).mono ?_
  rintro e w269 ⟨rfl, hb⟩
  replace BK46 := Aside0.mk (blk_below BK46.out hb)
  replace O79 := Aside0.mk (Kd.S_below O79.out hb)
  replace O80 := Aside0.mk (Kd.R_below O80.out hb)
  replace BK82 := Aside0.mk (blk_below BK82.out hb)
  replace BK230 := Aside0.mk (blk_below BK230.out hb)
  have Z271 := Aside0.mk (below_size hb)
  replace HB := Aside0.mk (below_step HB.out hb)
  clear hb 
  clear BK46 BK230
  have hz272 : w269.cell? ⟨g7r8_, 0, none⟩ = some (.slice A7r3_0_ r27.length c7r3_0_) := (blk_cell BK82.out 0).trans rfl
  have hz273 : w269.cell? ⟨g7r8_, 1, none⟩ = some (.int .i64 r28) := (blk_cell BK82.out 1).trans rfl
  have hz274 : w269.cell? ⟨g7r8_, 2, none⟩ = some (.int .i64 r29) := (blk_cell BK82.out 2).trans rfl
  have hz275 : w269.cell? ⟨g7r8_, 3, none⟩ = some (.int .i64 r30) := (blk_cell BK82.out 3).trans rfl
  have hz276 : w269.cell? ⟨g7r8_, 4, none⟩ = some (.int .i64 r31) := (blk_cell BK82.out 4).trans rfl
  have hz277 : w269.cell? ⟨g7r8_, 5, none⟩ = some (.int .i64 r32) := (blk_cell BK82.out 5).trans rfl
  have hz278 : w269.cell? ⟨g7r8_, 6, none⟩ = some (.slice A7r3_6_ r33.length c7r3_6_) := (blk_cell BK82.out 6).trans rfl
  have hl279 : g7r8_ < w269.heap.size := blk_lt BK82.out
  go_wp2_with fail
  clear hz272 hz273 hz274 hz275 hz276 hz277 hz278 hl279
  rw [hn206_.out]
  rw [hn207_.out]
  refine (laws_heldArena.calls k A7r3_0_ c7r3_0_ x200 r28 r29 r30 r31 r32 A7r3_6_ c7r3_6_ x201 1 m199 w269 (Kd.S_reads' O79.out).2.2 (Nat.le_trans (Nat.le_of_eq hn206_.out.symm) (Kd.S_reads' O79.out).2.1) (Kd.R_reads' O80.out).2.2 (Nat.le_trans (Nat.le_of_eq hn207_.out.symm) (Kd.R_reads' O80.out).2.1) e217.out).mono ?_
  rintro e w280 ⟨rfl, hb⟩
  replace O79 := Aside0.mk (Kd.S_below O79.out hb)
  replace O80 := Aside0.mk (Kd.R_below O80.out hb)
  replace BK82 := Aside0.mk (blk_below BK82.out hb)
  have Z282 := Aside0.mk (below_size hb)
  replace HB := Aside0.mk (below_step HB.out hb)
  clear hb 
  try rw [← hn207_.out]
  try rw [← hn206_.out]
  clear O79 O80 BK82
  go_wp2_with fail
  go_ret
  exact ⟨rfl, HB.out⟩

set_option maxHeartbeats 8000000 in
set_option maxRecDepth 100000 in
theorem FnExactGive.walk_big0 (k : Nat) (A0_0 : Option Addr) (c0_0 : Nat) (l0_0 : List (List Int)) (a0_1 : Int) (a0_2 : Int) (a0_3 : Int) (a0_4 : Int) (a0_5 : Int) (A0_6 : Option Addr) (c0_6 : Nat) (l0_6 : List Int) (a1_0 : Int) (a1_1 : Int) (r8 : Int) (w : World) (HR0_0 : Kd.C (Kd.slice 5 (Kd.int .u8)) w A0_0 l0_0.length l0_0) (HC0_0 : l0_0.length ≤ c0_0) (HR0_6 : Kd.C (Kd.int .i64) w A0_6 l0_6.length l0_6) (HC0_6 : l0_6.length ≤ c0_6) (e9 : laws_szArena.f k l0_0 a0_1 a0_2 a0_3 a0_4 a0_5 l0_6 1048576 = some r8) (n_r8 : r8 < 0) :
    Calls Try.prog 6 #[.agg #[.slice A0_0 l0_0.length c0_0, .int .i64 a0_1, .int .i64 a0_2, .int .i64 a0_3, .int .i64 a0_4, .int .i64 a0_5, .slice A0_6 l0_6.length c0_6], .agg #[.int .i64 a1_0, .int .i64 a1_1]] w fun e w' => e = .returned (.bool true) ∧ Below w.heap.size w w' := by
  have hu32 := Try.underlying32
  have hu65 := Try.underlying65
  have hu67 := Try.underlying67
  have hu70 := Try.underlying70
  replace HR0_0 := Aside0.mk HR0_0
  replace HC0_0 := Aside0.mk HC0_0
  replace HR0_6 := Aside0.mk HR0_6
  replace HC0_6 := Aside0.mk HC0_6
  replace e9 := Aside0.mk e9
  replace n_r8 := decide_eq_true n_r8
  have HB := Aside0.mk (Below.refl w.heap.size w)
  go_enter Try.func6, Try.ntmps6
  go_wp2_with fail
  have HA3 := Below.alloc (Below.refl w.heap.size w) (Nat.le_refl _) (.cells #[.slice A0_0 l0_0.length c0_0, .int .i64 a0_1, .int .i64 a0_2, .int .i64 a0_3, .int .i64 a0_4, .int .i64 a0_5, .slice A0_6 l0_6.length c0_6] 65)
  have BK1 := Aside0.mk (heap_alloc_new w (.cells #[.slice A0_0 l0_0.length c0_0, .int .i64 a0_1, .int .i64 a0_2, .int .i64 a0_3, .int .i64 a0_4, .int .i64 a0_5, .slice A0_6 l0_6.length c0_6] 65))
  replace HB := Aside0.mk (below_step HB.out HA3)
  have Z4 := Aside0.mk (show w.heap.size < (w.alloc (.cells #[.slice A0_0 l0_0.length c0_0, .int .i64 a0_1, .int .i64 a0_2, .int .i64 a0_3, .int .i64 a0_4, .int .i64 a0_5, .slice A0_6 l0_6.length c0_6] 65)).heap.size by simp)
  clear HA3
  have HA5 := Below.alloc (Below.refl (w.alloc (.cells #[.slice A0_0 l0_0.length c0_0, .int .i64 a0_1, .int .i64 a0_2, .int .i64 a0_3, .int .i64 a0_4, .int .i64 a0_5, .slice A0_6 l0_6.length c0_6] 65)).heap.size (w.alloc (.cells #[.slice A0_0 l0_0.length c0_0, .int .i64 a0_1, .int .i64 a0_2, .int .i64 a0_3, .int .i64 a0_4, .int .i64 a0_5, .slice A0_6 l0_6.length c0_6] 65))) (Nat.le_refl _) (.cells #[.int .i64 a1_0, .int .i64 a1_1] 67)
  replace BK1 := Aside0.mk (blk_below BK1.out HA5)
  have BK2 := Aside0.mk (heap_alloc_new (w.alloc (.cells #[.slice A0_0 l0_0.length c0_0, .int .i64 a0_1, .int .i64 a0_2, .int .i64 a0_3, .int .i64 a0_4, .int .i64 a0_5, .slice A0_6 l0_6.length c0_6] 65)) (.cells #[.int .i64 a1_0, .int .i64 a1_1] 67))
  replace HB := Aside0.mk (below_step HB.out HA5)
  have Z6 := Aside0.mk (show (w.alloc (.cells #[.slice A0_0 l0_0.length c0_0, .int .i64 a0_1, .int .i64 a0_2, .int .i64 a0_3, .int .i64 a0_4, .int .i64 a0_5, .slice A0_6 l0_6.length c0_6] 65)).heap.size < ((w.alloc (.cells #[.slice A0_0 l0_0.length c0_0, .int .i64 a0_1, .int .i64 a0_2, .int .i64 a0_3, .int .i64 a0_4, .int .i64 a0_5, .slice A0_6 l0_6.length c0_6] 65)).alloc (.cells #[.int .i64 a1_0, .int .i64 a1_1] 67)).heap.size by simp)
  clear HA5
  refine (laws_szArena.calls k A0_0 c0_0 l0_0 a0_1 a0_2 a0_3 a0_4 a0_5 A0_6 c0_6 l0_6 1048576 r8 ((w.alloc (.cells #[.slice A0_0 l0_0.length c0_0, .int .i64 a0_1, .int .i64 a0_2, .int .i64 a0_3, .int .i64 a0_4, .int .i64 a0_5, .slice A0_6 l0_6.length c0_6] 65)).alloc (.cells #[.int .i64 a1_0, .int .i64 a1_1] 67)) (Kd.C_below HR0_0.out HB.out) HC0_0.out (Kd.C_below HR0_6.out HB.out) HC0_6.out e9.out).mono ?_
  rintro e w7 ⟨rfl, hb⟩
  replace BK1 := Aside0.mk (blk_below BK1.out hb)
  replace BK2 := Aside0.mk (blk_below BK2.out hb)
  have Z10 := Aside0.mk (below_size hb)
  replace HB := Aside0.mk (below_step HB.out hb)
  clear hb 
  go_wp2
  go_ret
  exact ⟨rfl, HB.out⟩

def FnExactGive.Pure : Prop := ∀ (l0_0 : List (List Int)) (a0_1 : Int) (a0_2 : Int) (a0_3 : Int) (a0_4 : Int) (a0_5 : Int) (l0_6 : List Int) (a1_0 : Int) (a1_1 : Int), (l0_0.length ≤ maxLen ∧ ∀ z ∈ l0_0, (z.length ≤ maxLen ∧ ∀ z2 ∈ z, (Lit.int .u8 z2).wf = true)) → (Lit.int .i64 a0_1).wf = true → (Lit.int .i64 a0_2).wf = true → (Lit.int .i64 a0_3).wf = true → (Lit.int .i64 a0_4).wf = true → (Lit.int .i64 a0_5).wf = true → (l0_6.length ≤ maxLen ∧ ∀ z ∈ l0_6, (Lit.int .i64 z).wf = true) → (Lit.int .i64 a1_0).wf = true → (Lit.int .i64 a1_1).wf = true → (∃ (k : Nat) (r8 : Int) (r14 : List (List Int)) (r15 : Int) (r16 : Int) (r17 : Int) (r18 : Int) (r19 : Int) (r20 : List Int) (r24 : Int) (r25 : Int) (r27 : List (List Int)) (r28 : Int) (r29 : Int) (r30 : Int) (r31 : Int) (r32 : Int) (r33 : List Int) (r34 : Int) (r35 : Int) (r36 : Int) (r37 : Int) (r38 : Bool) (m149 : Int) (x150 : List (List Int)) (x151 : List Int) (m199 : Int) (x200 : List (List Int)) (x201 : List Int), laws_szArena.f k l0_0 a0_1 a0_2 a0_3 a0_4 a0_5 l0_6 1048576 = some r8 ∧ ¬ r8 < 0 ∧ laws_toArena.f k l0_0 a0_1 a0_2 a0_3 a0_4 a0_5 l0_6 = some (r14, r15, r16, r17, r18, r19, r20) ∧ laws_toAsked.f a1_0 a1_1 = some (r24, r25) ∧ spec_Give.f k r14 r15 r16 r17 r18 r19 r20 r24 r25 = some (r27, r28, r29, r30, r31, r32, r33, r34, r35, r36, r37, r38) ∧ impl_Give.f k r14 r15 r16 r17 r18 r19 r20 r24 r25 = some (r27, r28, r29, r30, r31, r32, r33, r34, r35, r36, r37, r38) ∧ laws_eqArena.f k r27 r28 r29 r30 r31 r32 r33 r27 r28 r29 r30 r31 r32 r33 = some true ∧ laws_eqWindow.f r34 r35 r36 r37 r34 r35 r36 r37 = some true ∧ laws_eqArena.f k r14 r15 r16 r17 r18 r19 r20 r14 r15 r16 r17 r18 r19 r20 = some true ∧ laws_markArena.f k r14 r20 1 = some (m149, x150, x151) ∧ ¬ m149 < 0 ∧ laws_markArena.f k r27 r33 1 = some (m199, x200, x201) ∧ laws_heldArena.f k x200 r28 r29 r30 r31 r32 x201 1 = some m199 ∧ ¬ m199 < 0) ∨
  (∃ (k : Nat) (r8 : Int), laws_szArena.f k l0_0 a0_1 a0_2 a0_3 a0_4 a0_5 l0_6 1048576 = some r8 ∧ r8 < 0)

theorem FnExactGive.call (P_ : FnExactGive.Pure) (A0_0 : Option Addr) (c0_0 : Nat) (l0_0 : List (List Int)) (a0_1 : Int) (a0_2 : Int) (a0_3 : Int) (a0_4 : Int) (a0_5 : Int) (A0_6 : Option Addr) (c0_6 : Nat) (l0_6 : List Int) (a1_0 : Int) (a1_1 : Int) (w : World) (HR0_0 : Kd.C (Kd.slice 5 (Kd.int .u8)) w A0_0 l0_0.length l0_0) (HC0_0 : l0_0.length ≤ c0_0) (HR0_6 : Kd.C (Kd.int .i64) w A0_6 l0_6.length l0_6) (HC0_6 : l0_6.length ≤ c0_6) (W_0 : (l0_0.length ≤ maxLen ∧ ∀ z ∈ l0_0, (z.length ≤ maxLen ∧ ∀ z2 ∈ z, (Lit.int .u8 z2).wf = true))) (W_1 : (Lit.int .i64 a0_1).wf = true) (W_2 : (Lit.int .i64 a0_2).wf = true) (W_3 : (Lit.int .i64 a0_3).wf = true) (W_4 : (Lit.int .i64 a0_4).wf = true) (W_5 : (Lit.int .i64 a0_5).wf = true) (W_6 : (l0_6.length ≤ maxLen ∧ ∀ z ∈ l0_6, (Lit.int .i64 z).wf = true)) (W_7 : (Lit.int .i64 a1_0).wf = true) (W_8 : (Lit.int .i64 a1_1).wf = true) :
    Calls Try.prog 6 #[.agg #[.slice A0_0 l0_0.length c0_0, .int .i64 a0_1, .int .i64 a0_2, .int .i64 a0_3, .int .i64 a0_4, .int .i64 a0_5, .slice A0_6 l0_6.length c0_6], .agg #[.int .i64 a1_0, .int .i64 a1_1]] w fun e w' => e = .returned (.bool true) ∧ Below w.heap.size w w' := by
  rcases P_ l0_0 a0_1 a0_2 a0_3 a0_4 a0_5 l0_6 a1_0 a1_1 W_0 W_1 W_2 W_3 W_4 W_5 W_6 W_7 W_8 with h_ | h_
  · obtain ⟨k, r8, r14, r15, r16, r17, r18, r19, r20, r24, r25, r27, r28, r29, r30, r31, r32, r33, r34, r35, r36, r37, r38, m149, x150, x151, m199, x200, x201, e9, n_r8, e21, e26, e39, e78, e112, e125, e138, e152, n_m149, e202, e217, n_m199⟩ := h_
    exact FnExactGive.walk k A0_0 c0_0 l0_0 a0_1 a0_2 a0_3 a0_4 a0_5 A0_6 c0_6 l0_6 a1_0 a1_1 r8 r14 r15 r16 r17 r18 r19 r20 r24 r25 r27 r28 r29 r30 r31 r32 r33 r34 r35 r36 r37 r38 m149 x150 x151 m199 x200 x201 w HR0_0 HC0_0 HR0_6 HC0_6 e9 n_r8 e21 e26 e39 e78 e112 e125 e138 e152 n_m149 e202 e217 n_m199
  · obtain ⟨k, r8, e9, n_r8⟩ := h_
    exact FnExactGive.walk_big0 k A0_0 c0_0 l0_0 a0_1 a0_2 a0_3 a0_4 a0_5 A0_6 c0_6 l0_6 a1_0 a1_1 r8 w HR0_0 HC0_0 HR0_6 HC0_6 e9 n_r8
end Go.Proofs.Ytmkcbbbknbahgaa.P
