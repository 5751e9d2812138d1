/- This text proves the given statement of the law FnExactPutBytes: for every input the law returns true and its arguments read afterwards as before. Conditions: those of the given row and no other. -/
import Derived.Test.YtmkcbbbknbahgaaCFnExactPutBytes3
import Derived.Test.YtmkcbbbknbahgaaRows
import Derived.WalkKit
import Derived.ProofKit
import Derived.OpenShut
import Derived.ShutString
import Derived.ChangeOld
import Derived.Below
import Derived.SizedLaws
namespace Go.Proofs.Ytmkcbbbknbahgaa.P
open Go.RowKit Go.Proofs.YtmkcbbbknbahgaaW.PrintWords Go.Proofs.YtmkcbbbknbahgaaW.PrintLast Go.Proofs.YtmkcbbbknbahgaaW.PrintMore
attribute [local go_sem] max2_int min2_int max_two min_two max_three min_three max_four min_four   -- for this text's walks alone
set_option linter.unusedVariables false
set_option linter.unusedSimpArgs false

def laws_eqGap.f (k : Nat) (l0_0 : List (List Int)) (a0_1 : Int) (a0_2 : Int) (a0_3 : Int) (a0_4 : Int) (a0_5 : Int) (a0_6 : Int) (l1_0 : List (List Int)) (a1_1 : Int) (a1_2 : Int) (a1_3 : Int) (a1_4 : Int) (a1_5 : Int) (a1_6 : Int) : Option (Bool) := (laws_eqMemory.f k l0_0 l1_0).bind fun t356 => (if t356 = true then ((laws_eqWindow.f a0_1 a0_2 a0_3 a0_4 a1_1 a1_2 a1_3 a1_4).bind fun t357 => (if t357 = true then (if a0_5 = a1_5 then (if a0_6 = a1_6 then (some true) else (some false)) else (some false)) else (some false))) else (some false))

set_option maxHeartbeats 8000000 in
set_option maxRecDepth 100000 in
theorem laws_eqGap.calls (k : Nat) (A0_0 : Option Addr) (c0_0 : Nat) (l0_0 : List (List Int)) (a0_1 : Int) (a0_2 : Int) (a0_3 : Int) (a0_4 : Int) (a0_5 : Int) (a0_6 : Int) (A1_0 : Option Addr) (c1_0 : Nat) (l1_0 : List (List Int)) (a1_1 : Int) (a1_2 : Int) (a1_3 : Int) (a1_4 : Int) (a1_5 : Int) (a1_6 : Int) (r : Bool) (w : World) (hr0_0 : Kd.C (Kd.slice 5 (Kd.int .u8)) w A0_0 l0_0.length l0_0) (hc0_0 : l0_0.length ≤ c0_0) (hr1_0 : Kd.C (Kd.slice 5 (Kd.int .u8)) w A1_0 l1_0.length l1_0) (hc1_0 : l1_0.length ≤ c1_0) (h : laws_eqGap.f k l0_0 a0_1 a0_2 a0_3 a0_4 a0_5 a0_6 l1_0 a1_1 a1_2 a1_3 a1_4 a1_5 a1_6 = some r) :
  Calls Try.prog 18 #[.agg #[.slice A0_0 l0_0.length c0_0, .int .i64 a0_1, .int .i64 a0_2, .int .i64 a0_3, .int .i64 a0_4, .int .i64 a0_5, .int .i64 a0_6], .agg #[.slice A1_0 l1_0.length c1_0, .int .i64 a1_1, .int .i64 a1_2, .int .i64 a1_3, .int .i64 a1_4, .int .i64 a1_5, .int .i64 a1_6]] w fun e w' => e = .returned (.bool r) ∧ Below w.heap.size w w' := by
 have hu34 := Try.underlying34
 have hu31 := Try.underlying31
 have hu32 := Try.underlying32
 have HR0_0 := Aside0.mk hr0_0
 have HC0_0 := Aside0.mk hc0_0
 clear hr0_0 hc0_0
 have HR1_0 := Aside0.mk hr1_0
 have HC1_0 := Aside0.mk hc1_0
 clear hr1_0 hc1_0
 have HB := Aside0.mk (Below.refl w.heap.size w)
 have H : ((laws_eqMemory.f k l0_0 l1_0).bind fun t356 => (if t356 = true then ((laws_eqWindow.f a0_1 a0_2 a0_3 a0_4 a1_1 a1_2 a1_3 a1_4).bind fun t357 => (if t357 = true then (if a0_5 = a1_5 then (if a0_6 = a1_6 then (some true) else (some false)) else (some false)) else (some false))) else (some false))) = some r := h
 clear h
 replace H := Option.bind_eq_some_iff.mp H
 obtain ⟨t356, A30, H⟩ := H
 replace H : (if t356 = true then ((laws_eqWindow.f a0_1 a0_2 a0_3 a0_4 a1_1 a1_2 a1_3 a1_4).bind fun t357 => (if t357 = true then (if a0_5 = a1_5 then (if a0_6 = a1_6 then (some true) else (some false)) else (some false)) else (some false))) else (some false)) = some r := H
 have A3 := Aside0.mk A30
 clear A30
 by_cases c4 : t356 = true
 ·subst c4
  rw [if_pos rfl] at H
  replace H := Option.bind_eq_some_iff.mp H
  obtain ⟨t357, A50, H⟩ := H
  replace H : (if t357 = true then (if a0_5 = a1_5 then (if a0_6 = a1_6 then (some true) else (some false)) else (some false)) else (some false)) = some r := H
  have A5 := Aside0.mk A50
  clear A50
  by_cases c6 : t357 = true
  ·subst c6
   rw [if_pos rfl] at H
   by_cases c7 : a0_5 = a1_5
   ·rw [if_pos c7] at H
    have c7b0 : (a0_5 == a1_5) = true := beq_iff_eq.mpr c7
    have c7b1 : (a0_5 != a1_5) = false := bne_eq_false_iff_eq.mpr c7
    clear c7
    by_cases c8 : a0_6 = a1_6
    ·rw [if_pos c8] at H
     have c8b0 : (a0_6 == a1_6) = true := beq_iff_eq.mpr c8
     have c8b1 : (a0_6 != a1_6) = false := bne_eq_false_iff_eq.mpr c8
     clear c8
     obtain rfl := Option.some.inj H
     go_enter Try.func18, Try.ntmps18
     go_wp2_with (first | ((with_reducible refine gate_dst (N := 2) rfl ?_); refine box_event ?hg (N := 2) ?hd (cs := #[.slice A0_0 l0_0.length c0_0, .int .i64 a0_1, .int .i64 a0_2, .int .i64 a0_3, .int .i64 a0_4, .int .i64 a0_5, .int .i64 a0_6]) (t := 34) ?hr ?_; (case hd => rfl); (case hg => rfl); (case hr => exact gs_); intro gb354 hg w9 hbox hb; have BK354 := Aside0.mk (hbox); have GW354 := gE_ HB hg; have GE354 := gE_ HB hg; replace HB := Aside0.mk (below_step (by repeat (first | (with_reducible first | exact HB.out | apply ba_ | apply bn_ | apply bd_) | exact HB.out)) hb); clear hb hbox hg) | ((with_reducible refine gate_dst (N := 3) rfl ?_); refine box_event ?hg (N := 3) ?hd (cs := #[.slice A1_0 l1_0.length c1_0, .int .i64 a1_1, .int .i64 a1_2, .int .i64 a1_3, .int .i64 a1_4, .int .i64 a1_5, .int .i64 a1_6]) (t := 34) ?hr ?_; (case hd => rfl); (case hg => rfl); (case hr => exact gs_); intro gb355 hg w10 hbox hb; have BK355 := Aside0.mk (hbox); have GW355 := gE_ HB hg; have GE355 := gE_ HB hg; replace HB := Aside0.mk (below_step (by repeat (first | (with_reducible first | exact HB.out | apply ba_ | apply bn_ | apply bd_ | refine bset_ ?_ (by assumption)) | exact HB.out)) hb); have NB354_355 := nB_ BK354 hg; have NB355_354 := nA_ BK354 hg; replace BK354 := bB_ BK354 hb; clear hb hbox hg; have hnb11 := NB354_355.out; have hnc11 := NB355_354.out; obtain ⟨hcz12_0, hcz12_1, hcz12_2, hcz12_3, hcz12_4, hcz12_5, hcz12_6, hfz12_0, hfz12_1, hfz12_2, hfz12_3, hfz12_4, hfz12_5, hfz12_6⟩ := zc7_ BK354; obtain ⟨hcz13_0, hcz13_1, hcz13_2, hcz13_3, hcz13_4, hcz13_5, hcz13_6, hfz13_0, hfz13_1, hfz13_2, hfz13_3, hfz13_4, hfz13_5, hfz13_6⟩ := zc7_ BK355) | ((with_reducible refine gate_callee (f := 61) rfl ?_); refine goesL_ (some 9) rfl rfl Try.func61 (by kernel_rfl) rfl #[.agg #[.slice A0_0 l0_0.length c0_0], .agg #[.slice A1_0 l1_0.length c1_0]] rfl ar_ ?_; (with_reducible refine (laws_eqMemory.calls k _ _ l0_0 _ _ l1_0 true _ ?side1 ?side2 ?side3 ?side4 A3.out).mono ?_); (case side1 => exact cS_ (Kd.C_below HR0_0.out HB.out)); (case side2 => exact HC0_0.out); (case side3 => exact cS_ (Kd.C_below HR1_0.out HB.out)); (case side4 => exact HC1_0.out); rintro e w14 ⟨rfl, hb⟩; refine ⟨_, rfl, ?_⟩; replace BK354 := bB_ BK354 hb; replace BK355 := bB_ BK355 hb; replace HB := Aside0.mk (below_step (by repeat (first | (with_reducible first | exact HB.out | apply ba_ | apply bn_ | apply bd_ | refine bset_ ?_ (by assumption)) | exact HB.out)) hb); (try clear hb); (try clear hb2); (try clear hk); (try clear hi); obtain ⟨hcz15_0, hcz15_1, hcz15_2, hcz15_3, hcz15_4, hcz15_5, hcz15_6, hfz15_0, hfz15_1, hfz15_2, hfz15_3, hfz15_4, hfz15_5, hfz15_6⟩ := zc7_ BK354; obtain ⟨hcz16_0, hcz16_1, hcz16_2, hcz16_3, hcz16_4, hcz16_5, hcz16_6, hfz16_0, hfz16_1, hfz16_2, hfz16_3, hfz16_4, hfz16_5, hfz16_6⟩ := zc7_ BK355) | ((with_reducible refine gate_callee (f := 41) rfl ?_); refine goesL_ (some 15) rfl rfl Try.func41 (by kernel_rfl) rfl #[.agg #[.int .i64 a0_1, .int .i64 a0_2, .int .i64 a0_3, .int .i64 a0_4], .agg #[.int .i64 a1_1, .int .i64 a1_2, .int .i64 a1_3, .int .i64 a1_4]] rfl ar_ ?_; (with_reducible refine (laws_eqWindow.calls a0_1 a0_2 a0_3 a0_4 a1_1 a1_2 a1_3 a1_4 true _ A5.out).mono ?_); rintro e w17 ⟨rfl, hb⟩; refine ⟨_, rfl, ?_⟩; replace BK354 := bB_ BK354 hb; replace BK355 := bB_ BK355 hb; replace HB := Aside0.mk (below_step (by repeat (first | (with_reducible first | exact HB.out | apply ba_ | apply bn_ | apply bd_ | refine bset_ ?_ (by assumption)) | exact HB.out)) hb); (try clear hb); (try clear hb2); (try clear hk); (try clear hi); obtain ⟨hcz18_0, hcz18_1, hcz18_2, hcz18_3, hcz18_4, hcz18_5, hcz18_6, hfz18_0, hfz18_1, hfz18_2, hfz18_3, hfz18_4, hfz18_5, hfz18_6⟩ := zc7_ BK354; obtain ⟨hcz19_0, hcz19_1, hcz19_2, hcz19_3, hcz19_4, hcz19_5, hcz19_6, hfz19_0, hfz19_1, hfz19_2, hfz19_3, hfz19_4, hfz19_5, hfz19_6⟩ := zc7_ BK355))
     go_ret
     exact ⟨er_, by repeat (first | (with_reducible first | exact HB.out | apply below_alloc | apply pw_below_drewN | apply below_drew1 | refine below_set ?_ GE354.out | refine below_set ?_ GE355.out) | exact HB.out)⟩
    ·rw [if_neg c8] at H
     have c8b0 : (a0_6 == a1_6) = false := beq_eq_false_iff_ne.mpr c8
     have c8b1 : (a0_6 != a1_6) = true := bne_iff_ne.mpr c8
     obtain rfl := Option.some.inj H
     go_enter Try.func18, Try.ntmps18
     go_wp2_with (first | ((with_reducible refine gate_dst (N := 2) rfl ?_); refine box_event ?hg (N := 2) ?hd (cs := #[.slice A0_0 l0_0.length c0_0, .int .i64 a0_1, .int .i64 a0_2, .int .i64 a0_3, .int .i64 a0_4, .int .i64 a0_5, .int .i64 a0_6]) (t := 34) ?hr ?_; (case hd => rfl); (case hg => rfl); (case hr => exact gs_); intro gb354 hg w20 hbox hb; have BK354 := Aside0.mk (hbox); have GW354 := gE_ HB hg; have GE354 := gE_ HB hg; replace HB := Aside0.mk (below_step (by repeat (first | (with_reducible first | exact HB.out | apply ba_ | apply bn_ | apply bd_) | exact HB.out)) hb); clear hb hbox hg) | ((with_reducible refine gate_dst (N := 3) rfl ?_); refine box_event ?hg (N := 3) ?hd (cs := #[.slice A1_0 l1_0.length c1_0, .int .i64 a1_1, .int .i64 a1_2, .int .i64 a1_3, .int .i64 a1_4, .int .i64 a1_5, .int .i64 a1_6]) (t := 34) ?hr ?_; (case hd => rfl); (case hg => rfl); (case hr => exact gs_); intro gb355 hg w21 hbox hb; have BK355 := Aside0.mk (hbox); have GW355 := gE_ HB hg; have GE355 := gE_ HB hg; replace HB := Aside0.mk (below_step (by repeat (first | (with_reducible first | exact HB.out | apply ba_ | apply bn_ | apply bd_ | refine bset_ ?_ (by assumption)) | exact HB.out)) hb); have NB354_355 := nB_ BK354 hg; have NB355_354 := nA_ BK354 hg; replace BK354 := bB_ BK354 hb; clear hb hbox hg; have hnb22 := NB354_355.out; have hnc22 := NB355_354.out; obtain ⟨hcz23_0, hcz23_1, hcz23_2, hcz23_3, hcz23_4, hcz23_5, hcz23_6, hfz23_0, hfz23_1, hfz23_2, hfz23_3, hfz23_4, hfz23_5, hfz23_6⟩ := zc7_ BK354; obtain ⟨hcz24_0, hcz24_1, hcz24_2, hcz24_3, hcz24_4, hcz24_5, hcz24_6, hfz24_0, hfz24_1, hfz24_2, hfz24_3, hfz24_4, hfz24_5, hfz24_6⟩ := zc7_ BK355) | ((with_reducible refine gate_callee (f := 61) rfl ?_); refine goesL_ (some 9) rfl rfl Try.func61 (by kernel_rfl) rfl #[.agg #[.slice A0_0 l0_0.length c0_0], .agg #[.slice A1_0 l1_0.length c1_0]] rfl ar_ ?_; (with_reducible refine (laws_eqMemory.calls k _ _ l0_0 _ _ l1_0 true _ ?side1 ?side2 ?side3 ?side4 A3.out).mono ?_); (case side1 => exact cS_ (Kd.C_below HR0_0.out HB.out)); (case side2 => exact HC0_0.out); (case side3 => exact cS_ (Kd.C_below HR1_0.out HB.out)); (case side4 => exact HC1_0.out); rintro e w25 ⟨rfl, hb⟩; refine ⟨_, rfl, ?_⟩; replace BK354 := bB_ BK354 hb; replace BK355 := bB_ BK355 hb; replace HB := Aside0.mk (below_step (by repeat (first | (with_reducible first | exact HB.out | apply ba_ | apply bn_ | apply bd_ | refine bset_ ?_ (by assumption)) | exact HB.out)) hb); (try clear hb); (try clear hb2); (try clear hk); (try clear hi); obtain ⟨hcz26_0, hcz26_1, hcz26_2, hcz26_3, hcz26_4, hcz26_5, hcz26_6, hfz26_0, hfz26_1, hfz26_2, hfz26_3, hfz26_4, hfz26_5, hfz26_6⟩ := zc7_ BK354; obtain ⟨hcz27_0, hcz27_1, hcz27_2, hcz27_3, hcz27_4, hcz27_5, hcz27_6, hfz27_0, hfz27_1, hfz27_2, hfz27_3, hfz27_4, hfz27_5, hfz27_6⟩ := zc7_ BK355) | ((with_reducible refine gate_callee (f := 41) rfl ?_); refine goesL_ (some 15) rfl rfl Try.func41 (by kernel_rfl) rfl #[.agg #[.int .i64 a0_1, .int .i64 a0_2, .int .i64 a0_3, .int .i64 a0_4], .agg #[.int .i64 a1_1, .int .i64 a1_2, .int .i64 a1_3, .int .i64 a1_4]] rfl ar_ ?_; (with_reducible refine (laws_eqWindow.calls a0_1 a0_2 a0_3 a0_4 a1_1 a1_2 a1_3 a1_4 true _ A5.out).mono ?_); rintro e w28 ⟨rfl, hb⟩; refine ⟨_, rfl, ?_⟩; replace BK354 := bB_ BK354 hb; replace BK355 := bB_ BK355 hb; replace HB := Aside0.mk (below_step (by repeat (first | (with_reducible first | exact HB.out | apply ba_ | apply bn_ | apply bd_ | refine bset_ ?_ (by assumption)) | exact HB.out)) hb); (try clear hb); (try clear hb2); (try clear hk); (try clear hi); obtain ⟨hcz29_0, hcz29_1, hcz29_2, hcz29_3, hcz29_4, hcz29_5, hcz29_6, hfz29_0, hfz29_1, hfz29_2, hfz29_3, hfz29_4, hfz29_5, hfz29_6⟩ := zc7_ BK354; obtain ⟨hcz30_0, hcz30_1, hcz30_2, hcz30_3, hcz30_4, hcz30_5, hcz30_6, hfz30_0, hfz30_1, hfz30_2, hfz30_3, hfz30_4, hfz30_5, hfz30_6⟩ := zc7_ BK355))
     go_ret
     exact ⟨er_, by repeat (first | (with_reducible first | exact HB.out | apply below_alloc | apply pw_below_drewN | apply below_drew1 | refine below_set ?_ GE354.out | refine below_set ?_ GE355.out) | exact HB.out)⟩
   ·rw [if_neg c7] at H
    have c7b0 : (a0_5 == a1_5) = false := beq_eq_false_iff_ne.mpr c7
    have c7b1 : (a0_5 != a1_5) = true := bne_iff_ne.mpr c7
    obtain rfl := Option.some.inj H
    go_enter Try.func18, Try.ntmps18
    go_wp2_with (first | ((with_reducible refine gate_dst (N := 2) rfl ?_); refine box_event ?hg (N := 2) ?hd (cs := #[.slice A0_0 l0_0.length c0_0, .int .i64 a0_1, .int .i64 a0_2, .int .i64 a0_3, .int .i64 a0_4, .int .i64 a0_5, .int .i64 a0_6]) (t := 34) ?hr ?_; (case hd => rfl); (case hg => rfl); (case hr => exact gs_); intro gb354 hg w31 hbox hb; have BK354 := Aside0.mk (hbox); have GW354 := gE_ HB hg; have GE354 := gE_ HB hg; replace HB := Aside0.mk (below_step (by repeat (first | (with_reducible first | exact HB.out | apply ba_ | apply bn_ | apply bd_) | exact HB.out)) hb); clear hb hbox hg) | ((with_reducible refine gate_dst (N := 3) rfl ?_); refine box_event ?hg (N := 3) ?hd (cs := #[.slice A1_0 l1_0.length c1_0, .int .i64 a1_1, .int .i64 a1_2, .int .i64 a1_3, .int .i64 a1_4, .int .i64 a1_5, .int .i64 a1_6]) (t := 34) ?hr ?_; (case hd => rfl); (case hg => rfl); (case hr => exact gs_); intro gb355 hg w32 hbox hb; have BK355 := Aside0.mk (hbox); have GW355 := gE_ HB hg; have GE355 := gE_ HB hg; replace HB := Aside0.mk (below_step (by repeat (first | (with_reducible first | exact HB.out | apply ba_ | apply bn_ | apply bd_ | refine bset_ ?_ (by assumption)) | exact HB.out)) hb); have NB354_355 := nB_ BK354 hg; have NB355_354 := nA_ BK354 hg; replace BK354 := bB_ BK354 hb; clear hb hbox hg; have hnb33 := NB354_355.out; have hnc33 := NB355_354.out; obtain ⟨hcz34_0, hcz34_1, hcz34_2, hcz34_3, hcz34_4, hcz34_5, hcz34_6, hfz34_0, hfz34_1, hfz34_2, hfz34_3, hfz34_4, hfz34_5, hfz34_6⟩ := zc7_ BK354; obtain ⟨hcz35_0, hcz35_1, hcz35_2, hcz35_3, hcz35_4, hcz35_5, hcz35_6, hfz35_0, hfz35_1, hfz35_2, hfz35_3, hfz35_4, hfz35_5, hfz35_6⟩ := zc7_ BK355) | ((with_reducible refine gate_callee (f := 61) rfl ?_); refine goesL_ (some 9) rfl rfl Try.func61 (by kernel_rfl) rfl #[.agg #[.slice A0_0 l0_0.length c0_0], .agg #[.slice A1_0 l1_0.length c1_0]] rfl ar_ ?_; (with_reducible refine (laws_eqMemory.calls k _ _ l0_0 _ _ l1_0 true _ ?side1 ?side2 ?side3 ?side4 A3.out).mono ?_); (case side1 => exact cS_ (Kd.C_below HR0_0.out HB.out)); (case side2 => exact HC0_0.out); (case side3 => exact cS_ (Kd.C_below HR1_0.out HB.out)); (case side4 => exact HC1_0.out); rintro e w36 ⟨rfl, hb⟩; refine ⟨_, rfl, ?_⟩; replace BK354 := bB_ BK354 hb; replace BK355 := bB_ BK355 hb; replace HB := Aside0.mk (below_step (by repeat (first | (with_reducible first | exact HB.out | apply ba_ | apply bn_ | apply bd_ | refine bset_ ?_ (by assumption)) | exact HB.out)) hb); (try clear hb); (try clear hb2); (try clear hk); (try clear hi); obtain ⟨hcz37_0, hcz37_1, hcz37_2, hcz37_3, hcz37_4, hcz37_5, hcz37_6, hfz37_0, hfz37_1, hfz37_2, hfz37_3, hfz37_4, hfz37_5, hfz37_6⟩ := zc7_ BK354; obtain ⟨hcz38_0, hcz38_1, hcz38_2, hcz38_3, hcz38_4, hcz38_5, hcz38_6, hfz38_0, hfz38_1, hfz38_2, hfz38_3, hfz38_4, hfz38_5, hfz38_6⟩ := zc7_ BK355) | ((with_reducible refine gate_callee (f := 41) rfl ?_); refine goesL_ (some 15) rfl rfl Try.func41 (by kernel_rfl) rfl #[.agg #[.int .i64 a0_1, .int .i64 a0_2, .int .i64 a0_3, .int .i64 a0_4], .agg #[.int .i64 a1_1, .int .i64 a1_2, .int .i64 a1_3, .int .i64 a1_4]] rfl ar_ ?_; (with_reducible refine (laws_eqWindow.calls a0_1 a0_2 a0_3 a0_4 a1_1 a1_2 a1_3 a1_4 true _ A5.out).mono ?_); rintro e w39 ⟨rfl, hb⟩; refine ⟨_, rfl, ?_⟩; replace BK354 := bB_ BK354 hb; replace BK355 := bB_ BK355 hb; replace HB := Aside0.mk (below_step (by repeat (first | (with_reducible first | exact HB.out | apply ba_ | apply bn_ | apply bd_ | refine bset_ ?_ (by assumption)) | exact HB.out)) hb); (try clear hb); (try clear hb2); (try clear hk); (try clear hi); obtain ⟨hcz40_0, hcz40_1, hcz40_2, hcz40_3, hcz40_4, hcz40_5, hcz40_6, hfz40_0, hfz40_1, hfz40_2, hfz40_3, hfz40_4, hfz40_5, hfz40_6⟩ := zc7_ BK354; obtain ⟨hcz41_0, hcz41_1, hcz41_2, hcz41_3, hcz41_4, hcz41_5, hcz41_6, hfz41_0, hfz41_1, hfz41_2, hfz41_3, hfz41_4, hfz41_5, hfz41_6⟩ := zc7_ BK355))
    go_ret
    exact ⟨er_, by repeat (first | (with_reducible first | exact HB.out | apply below_alloc | apply pw_below_drewN | apply below_drew1 | refine below_set ?_ GE354.out | refine below_set ?_ GE355.out) | exact HB.out)⟩
  ·replace c6 := Bool.eq_false_iff.mpr c6
   subst c6
   rw [if_neg (show ¬ (false = true) by decide)] at H
   obtain rfl := Option.some.inj H
   go_enter Try.func18, Try.ntmps18
   go_wp2_with (first | ((with_reducible refine gate_dst (N := 2) rfl ?_); refine box_event ?hg (N := 2) ?hd (cs := #[.slice A0_0 l0_0.length c0_0, .int .i64 a0_1, .int .i64 a0_2, .int .i64 a0_3, .int .i64 a0_4, .int .i64 a0_5, .int .i64 a0_6]) (t := 34) ?hr ?_; (case hd => rfl); (case hg => rfl); (case hr => exact gs_); intro gb354 hg w42 hbox hb; have BK354 := Aside0.mk (hbox); have GW354 := gE_ HB hg; have GE354 := gE_ HB hg; replace HB := Aside0.mk (below_step (by repeat (first | (with_reducible first | exact HB.out | apply ba_ | apply bn_ | apply bd_) | exact HB.out)) hb); clear hb hbox hg) | ((with_reducible refine gate_dst (N := 3) rfl ?_); refine box_event ?hg (N := 3) ?hd (cs := #[.slice A1_0 l1_0.length c1_0, .int .i64 a1_1, .int .i64 a1_2, .int .i64 a1_3, .int .i64 a1_4, .int .i64 a1_5, .int .i64 a1_6]) (t := 34) ?hr ?_; (case hd => rfl); (case hg => rfl); (case hr => exact gs_); intro gb355 hg w43 hbox hb; have BK355 := Aside0.mk (hbox); have GW355 := gE_ HB hg; have GE355 := gE_ HB hg; replace HB := Aside0.mk (below_step (by repeat (first | (with_reducible first | exact HB.out | apply ba_ | apply bn_ | apply bd_ | refine bset_ ?_ (by assumption)) | exact HB.out)) hb); have NB354_355 := nB_ BK354 hg; have NB355_354 := nA_ BK354 hg; replace BK354 := bB_ BK354 hb; clear hb hbox hg; have hnb44 := NB354_355.out; have hnc44 := NB355_354.out; obtain ⟨hcz45_0, hcz45_1, hcz45_2, hcz45_3, hcz45_4, hcz45_5, hcz45_6, hfz45_0, hfz45_1, hfz45_2, hfz45_3, hfz45_4, hfz45_5, hfz45_6⟩ := zc7_ BK354; obtain ⟨hcz46_0, hcz46_1, hcz46_2, hcz46_3, hcz46_4, hcz46_5, hcz46_6, hfz46_0, hfz46_1, hfz46_2, hfz46_3, hfz46_4, hfz46_5, hfz46_6⟩ := zc7_ BK355) | ((with_reducible refine gate_callee (f := 61) rfl ?_); refine goesL_ (some 9) rfl rfl Try.func61 (by kernel_rfl) rfl #[.agg #[.slice A0_0 l0_0.length c0_0], .agg #[.slice A1_0 l1_0.length c1_0]] rfl ar_ ?_; (with_reducible refine (laws_eqMemory.calls k _ _ l0_0 _ _ l1_0 true _ ?side1 ?side2 ?side3 ?side4 A3.out).mono ?_); (case side1 => exact cS_ (Kd.C_below HR0_0.out HB.out)); (case side2 => exact HC0_0.out); (case side3 => exact cS_ (Kd.C_below HR1_0.out HB.out)); (case side4 => exact HC1_0.out); rintro e w47 ⟨rfl, hb⟩; refine ⟨_, rfl, ?_⟩; replace BK354 := bB_ BK354 hb; replace BK355 := bB_ BK355 hb; replace HB := Aside0.mk (below_step (by repeat (first | (with_reducible first | exact HB.out | apply ba_ | apply bn_ | apply bd_ | refine bset_ ?_ (by assumption)) | exact HB.out)) hb); (try clear hb); (try clear hb2); (try clear hk); (try clear hi); obtain ⟨hcz48_0, hcz48_1, hcz48_2, hcz48_3, hcz48_4, hcz48_5, hcz48_6, hfz48_0, hfz48_1, hfz48_2, hfz48_3, hfz48_4, hfz48_5, hfz48_6⟩ := zc7_ BK354; obtain ⟨hcz49_0, hcz49_1, hcz49_2, hcz49_3, hcz49_4, hcz49_5, hcz49_6, hfz49_0, hfz49_1, hfz49_2, hfz49_3, hfz49_4, hfz49_5, hfz49_6⟩ := zc7_ BK355) | ((with_reducible refine gate_callee (f := 41) rfl ?_); refine goesL_ (some 15) rfl rfl Try.func41 (by kernel_rfl) rfl #[.agg #[.int .i64 a0_1, .int .i64 a0_2, .int .i64 a0_3, .int .i64 a0_4], .agg #[.int .i64 a1_1, .int .i64 a1_2, .int .i64 a1_3, .int .i64 a1_4]] rfl ar_ ?_; (with_reducible refine (laws_eqWindow.calls a0_1 a0_2 a0_3 a0_4 a1_1 a1_2 a1_3 a1_4 false _ A5.out).mono ?_); rintro e w50 ⟨rfl, hb⟩; refine ⟨_, rfl, ?_⟩; replace BK354 := bB_ BK354 hb; replace BK355 := bB_ BK355 hb; replace HB := Aside0.mk (below_step (by repeat (first | (with_reducible first | exact HB.out | apply ba_ | apply bn_ | apply bd_ | refine bset_ ?_ (by assumption)) | exact HB.out)) hb); (try clear hb); (try clear hb2); (try clear hk); (try clear hi)))
   go_ret
   exact ⟨er_, by repeat (first | (with_reducible first | exact HB.out | apply below_alloc | apply pw_below_drewN | apply below_drew1 | refine below_set ?_ GE354.out | refine below_set ?_ GE355.out) | exact HB.out)⟩
 ·replace c4 := Bool.eq_false_iff.mpr c4
  subst c4
  rw [if_neg (show ¬ (false = true) by decide)] at H
  obtain rfl := Option.some.inj H
  go_enter Try.func18, Try.ntmps18
  go_wp2_with (first | ((with_reducible refine gate_dst (N := 2) rfl ?_); refine box_event ?hg (N := 2) ?hd (cs := #[.slice A0_0 l0_0.length c0_0, .int .i64 a0_1, .int .i64 a0_2, .int .i64 a0_3, .int .i64 a0_4, .int .i64 a0_5, .int .i64 a0_6]) (t := 34) ?hr ?_; (case hd => rfl); (case hg => rfl); (case hr => exact gs_); intro gb354 hg w51 hbox hb; have BK354 := Aside0.mk (hbox); have GW354 := gE_ HB hg; have GE354 := gE_ HB hg; replace HB := Aside0.mk (below_step (by repeat (first | (with_reducible first | exact HB.out | apply ba_ | apply bn_ | apply bd_) | exact HB.out)) hb); clear hb hbox hg) | ((with_reducible refine gate_dst (N := 3) rfl ?_); refine box_event ?hg (N := 3) ?hd (cs := #[.slice A1_0 l1_0.length c1_0, .int .i64 a1_1, .int .i64 a1_2, .int .i64 a1_3, .int .i64 a1_4, .int .i64 a1_5, .int .i64 a1_6]) (t := 34) ?hr ?_; (case hd => rfl); (case hg => rfl); (case hr => exact gs_); intro gb355 hg w52 hbox hb; have BK355 := Aside0.mk (hbox); have GW355 := gE_ HB hg; have GE355 := gE_ HB hg; replace HB := Aside0.mk (below_step (by repeat (first | (with_reducible first | exact HB.out | apply ba_ | apply bn_ | apply bd_ | refine bset_ ?_ (by assumption)) | exact HB.out)) hb); have NB354_355 := nB_ BK354 hg; have NB355_354 := nA_ BK354 hg; replace BK354 := bB_ BK354 hb; clear hb hbox hg; have hnb53 := NB354_355.out; have hnc53 := NB355_354.out; obtain ⟨hcz54_0, hcz54_1, hcz54_2, hcz54_3, hcz54_4, hcz54_5, hcz54_6, hfz54_0, hfz54_1, hfz54_2, hfz54_3, hfz54_4, hfz54_5, hfz54_6⟩ := zc7_ BK354; obtain ⟨hcz55_0, hcz55_1, hcz55_2, hcz55_3, hcz55_4, hcz55_5, hcz55_6, hfz55_0, hfz55_1, hfz55_2, hfz55_3, hfz55_4, hfz55_5, hfz55_6⟩ := zc7_ BK355) | ((with_reducible refine gate_callee (f := 61) rfl ?_); refine goesL_ (some 9) rfl rfl Try.func61 (by kernel_rfl) rfl #[.agg #[.slice A0_0 l0_0.length c0_0], .agg #[.slice A1_0 l1_0.length c1_0]] rfl ar_ ?_; (with_reducible refine (laws_eqMemory.calls k _ _ l0_0 _ _ l1_0 false _ ?side1 ?side2 ?side3 ?side4 A3.out).mono ?_); (case side1 => exact cS_ (Kd.C_below HR0_0.out HB.out)); (case side2 => exact HC0_0.out); (case side3 => exact cS_ (Kd.C_below HR1_0.out HB.out)); (case side4 => exact HC1_0.out); rintro e w56 ⟨rfl, hb⟩; refine ⟨_, rfl, ?_⟩; replace BK354 := bB_ BK354 hb; replace BK355 := bB_ BK355 hb; replace HB := Aside0.mk (below_step (by repeat (first | (with_reducible first | exact HB.out | apply ba_ | apply bn_ | apply bd_ | refine bset_ ?_ (by assumption)) | exact HB.out)) hb); (try clear hb); (try clear hb2); (try clear hk); (try clear hi)))
  go_ret
  exact ⟨er_, by repeat (first | (with_reducible first | exact HB.out | apply below_alloc | apply pw_below_drewN | apply below_drew1 | refine below_set ?_ GE354.out | refine below_set ?_ GE355.out) | exact HB.out)⟩
end Go.Proofs.Ytmkcbbbknbahgaa.P
namespace Go.Proofs.Ytmkcbbbknbahgaa.P
open Go.RowKit Go.Proofs.YtmkcbbbknbahgaaW.PrintWords Go.Proofs.YtmkcbbbknbahgaaW.PrintLast Go.Proofs.YtmkcbbbknbahgaaW.PrintMore
attribute [local go_sem] max2_int min2_int max_two min_two max_three min_three max_four min_four   -- for this text's walks alone
set_option linter.unusedVariables false
set_option linter.unusedSimpArgs false

def laws_heldByteS.l0 : Nat → List Int → Int → Int → Option (Int)
 | 0, _, _, _ => none
 | k + 1, x0, x1, x5 => if x5 < (x0.length : Int) then (if 0 ≤ x5 then (if (rd x0 x5) = ((x1) % 256) then (laws_heldByteS.l0 k x0 (wrap64 (x1 + 1)) (wrap64 (x5 + 1))) else (some (-1))) else (none)) else (some x1)

def laws_heldByteS.f (k : Nat) (l0 : List Int) (a1 : Int) : Option (Int) := laws_heldByteS.l0 k l0 a1 0

set_option maxHeartbeats 8000000 in
set_option maxRecDepth 100000 in
theorem laws_heldByteS.calls (k : Nat) (A0 : Option Addr) (c0 : Nat) (l0 : List Int) (a1 : Int) (r : Int) (w : World) (hr0 : Kd.C (Kd.int .u8) w A0 l0.length l0) (hc0 : l0.length ≤ c0) (h : laws_heldByteS.f k l0 a1 = some r) :
  Calls Try.prog 163 #[.slice A0 l0.length c0, .int .i64 a1] w fun e w' => e = .returned (.int .i64 r) ∧ Drawn0 w w' := by
 have HR0 := Aside0.mk hr0
 have HC0 := Aside0.mk hc0
 clear hr0 hc0
 have H : (laws_heldByteS.l0 k l0 a1 0) = some r := h
 clear h
 have H' := Aside0.mk H
 clear H
 go_enter Try.func163, Try.ntmps163
 go_wp2
 go_loopg [1, 5] k (fun kq v1 v5 w' => ∃ (x1_1 : Int) (x5_1 : Int), v1 = .int .i64 x1_1 ∧ v5 = .int .i64 x5_1 ∧ Aside0 (laws_heldByteS.l0 kq l0 x1_1 x5_1 = some r) ∧ Aside0 (kq ≤ k) ∧ Drawn0 w w')
 case atStart => exact ⟨(a1), (0), (by first | rfl | (simp; done) | (simp [*]; done)), (by first | rfl | (simp; done) | (simp [*]; done)), H', ⟨Nat.le_refl _⟩, by repeat (first | exact Drawn0.refl _ | apply Drawn0.step)⟩
 case round =>
  clear H'
  try clear c1
  try clear p2
  obtain ⟨x1_1, x5_1, rfl, rfl, HA, HK1, ⟨m1, rfl⟩⟩ := hrel
  cases gk with
  | zero => exact absurd HA.out (by simp [laws_heldByteS.l0])
  | succ k1 =>
   have H := HA.out
   clear HA
   simp only [laws_heldByteS.l0] at H
   by_cases c3 : x5_1 < (l0.length : Int)
   ·rw [if_pos c3] at H
    have c3b0 : decide (x5_1 < (l0.length : Int)) = true := decide_eq_true c3
    clear c3
    by_cases c4 : 0 ≤ x5_1
    ·rw [if_pos c4] at H
     have c4b0 : decide (0 ≤ x5_1) = true := decide_eq_true c4
     clear c4
     by_cases c5 : (rd l0 x5_1) = ((x1_1) % 256)
     ·rw [if_pos c5] at H
      have c5b0 : ((rd l0 x5_1) == ((x1_1) % 256)) = true := beq_iff_eq.mpr c5
      have c5b1 : ((rd l0 x5_1) != ((x1_1) % 256)) = false := bne_eq_false_iff_eq.mpr c5
      clear c5
      have H' := Aside0.mk H
      clear H
      have p362 : 0 ≤ (x5_1 : Int) := of_decide_eq_true as_
      have q362 : x5_1 < (l0.length : Int) := of_decide_eq_true as_
      obtain ⟨ad362, e362, hx362_0⟩ := Kd.at_int HR0.out x5_1 p362 q362
      cases e362
      replace p362 := eq_true p362
      replace q362 := eq_true q362
      go_wp2
      go_roundg k1
      case measure => have := HK1.out; omega
      case rel => exact ⟨(wrap64 (x1_1 + 1)), (wrap64 (x5_1 + 1)), (by first | rfl | (simp; done) | (simp [*]; done)), (by first | rfl | (simp; done) | (simp [*]; done)), H', ⟨by have := HK1.out; omega⟩, by repeat (first | exact Drawn0.refl _ | apply Drawn0.step)⟩
     ·rw [if_neg c5] at H
      have c5b0 : ((rd l0 x5_1) == ((x1_1) % 256)) = false := beq_eq_false_iff_ne.mpr c5
      have c5b1 : ((rd l0 x5_1) != ((x1_1) % 256)) = true := bne_iff_ne.mpr c5
      obtain rfl := Option.some.inj H
      have p362 : 0 ≤ (x5_1 : Int) := of_decide_eq_true as_
      have q362 : x5_1 < (l0.length : Int) := of_decide_eq_true as_
      obtain ⟨ad362, e362, hx362_0⟩ := Kd.at_int HR0.out x5_1 p362 q362
      cases e362
      replace p362 := eq_true p362
      replace q362 := eq_true q362
      go_wp2
      go_ret
      exact ⟨by first | rfl | (simp; done) | (simp [*]; done), by repeat (first | exact Drawn0.refl _ | apply Drawn0.step)⟩
    ·rw [if_neg c4] at H
     exact absurd H (by simp)
   ·rw [if_neg c3] at H
    have c3b0 : decide (x5_1 < (l0.length : Int)) = false := decide_eq_false c3
    clear c3
    obtain rfl := Option.some.inj H
    go_wp2
    go_ret
    exact ⟨by first | rfl | (simp; done) | (simp [*]; done), by repeat (first | exact Drawn0.refl _ | apply Drawn0.step)⟩
end Go.Proofs.Ytmkcbbbknbahgaa.P
namespace Go.Proofs.Ytmkcbbbknbahgaa.P
open Go.RowKit Go.Proofs.YtmkcbbbknbahgaaW.PrintWords Go.Proofs.YtmkcbbbknbahgaaW.PrintLast Go.Proofs.YtmkcbbbknbahgaaW.PrintMore
attribute [local go_sem] max2_int min2_int max_two min_two max_three min_three max_four min_four   -- for this text's walks alone
set_option linter.unusedVariables false
set_option linter.unusedSimpArgs false

def laws_heldByteSS.l0 : Nat → List (List Int) → Int → Int → Option (Int)
 | 0, _, _, _ => none
 | k + 1, x0, x1, x5 => if x5 < (x0.length : Int) then (if 0 ≤ x5 then ((laws_heldByteS.f k (rd_L1 x0 x5) x1).bind fun t364 => (if t364 < 0 then (some (-1)) else (laws_heldByteSS.l0 k x0 t364 (wrap64 (x5 + 1))))) else (none)) else (some x1)

def laws_heldByteSS.f (k : Nat) (l0 : List (List Int)) (a1 : Int) : Option (Int) := laws_heldByteSS.l0 k l0 a1 0

set_option maxHeartbeats 8000000 in
set_option maxRecDepth 100000 in
theorem laws_heldByteSS.calls (k : Nat) (A0 : Option Addr) (c0 : Nat) (l0 : List (List Int)) (a1 : Int) (r : Int) (w : World) (hr0 : Kd.C (Kd.slice 5 (Kd.int .u8)) w A0 l0.length l0) (hc0 : l0.length ≤ c0) (h : laws_heldByteSS.f k l0 a1 = some r) :
  Calls Try.prog 131 #[.slice A0 l0.length c0, .int .i64 a1] w fun e w' => e = .returned (.int .i64 r) ∧ Drawn0 w w' := by
 have HR0 := Aside0.mk hr0
 have HC0 := Aside0.mk hc0
 clear hr0 hc0
 have H : (laws_heldByteSS.l0 k l0 a1 0) = some r := h
 clear h
 have H' := Aside0.mk H
 clear H
 go_enter Try.func131, Try.ntmps131
 go_wp2
 go_loopg [1, 5] k (fun kq v1 v5 w' => ∃ (x1_1 : Int) (x5_1 : Int), v1 = .int .i64 x1_1 ∧ v5 = .int .i64 x5_1 ∧ Aside0 (laws_heldByteSS.l0 kq l0 x1_1 x5_1 = some r) ∧ Aside0 (kq ≤ k) ∧ Drawn0 w w')
 case atStart => exact ⟨(a1), (0), (by first | rfl | (simp; done) | (simp [*]; done)), (by first | rfl | (simp; done) | (simp [*]; done)), H', ⟨Nat.le_refl _⟩, by repeat (first | exact Drawn0.refl _ | apply Drawn0.step)⟩
 case round =>
  clear H'
  try clear c1
  try clear p2
  obtain ⟨x1_1, x5_1, rfl, rfl, HA, HK1, ⟨m1, rfl⟩⟩ := hrel
  cases gk with
  | zero => exact absurd HA.out (by simp [laws_heldByteSS.l0])
  | succ k1 =>
   have H := HA.out
   clear HA
   simp only [laws_heldByteSS.l0] at H
   by_cases c3 : x5_1 < (l0.length : Int)
   ·rw [if_pos c3] at H
    have c3b0 : decide (x5_1 < (l0.length : Int)) = true := decide_eq_true c3
    clear c3
    by_cases c4 : 0 ≤ x5_1
    ·rw [if_pos c4] at H
     have c4b0 : decide (0 ≤ x5_1) = true := decide_eq_true c4
     clear c4
     replace H := Option.bind_eq_some_iff.mp H
     obtain ⟨t364, A50, H⟩ := H
     replace H : (if t364 < 0 then (some (-1)) else (laws_heldByteSS.l0 k1 l0 t364 (wrap64 (x5_1 + 1)))) = some r := H
     have A5 := Aside0.mk A50
     clear A50
     by_cases c6 : t364 < 0
     ·rw [if_pos c6] at H
      have c6b0 : decide (t364 < 0) = true := decide_eq_true c6
      clear c6
      obtain rfl := Option.some.inj H
      have p363 : 0 ≤ (x5_1 : Int) := of_decide_eq_true as_
      have q363 : x5_1 < (l0.length : Int) := of_decide_eq_true as_
      obtain ⟨ad363, A363_0, c363_0, e363, hx363_0, hl363_0, hi363_0⟩ := at_L1 HR0.out x5_1 p363 q363
      cases e363
      have HR363_0 := Aside0.mk hi363_0
      have HC363_0 := Aside0.mk hl363_0
      clear hi363_0 hl363_0
      replace p363 := eq_true p363
      replace q363 := eq_true q363
      go_wp2_with (first | ((with_reducible refine gate_callee (f := 163) rfl ?_); refine goesL_ (some 17) rfl rfl Try.func163 (by kernel_rfl) rfl #[.slice A363_0 (rd_L1 l0 x5_1).length c363_0, .int .i64 x1_1] rfl ar_ ?_; (with_reducible refine (laws_heldByteS.calls k1 _ _ (rd_L1 l0 x5_1) x1_1 t364 _ ?side1 ?side2 A5.out).mono ?_); (case side1 => exact cS_ HR363_0.out); (case side2 => exact HC363_0.out); rintro e w' ⟨rfl, ⟨nd, rfl⟩⟩; refine ⟨_, rfl, ?_⟩))
      go_ret
      exact ⟨by first | rfl | (simp; done) | (simp [*]; done), by repeat (first | exact Drawn0.refl _ | apply Drawn0.step)⟩
     ·rw [if_neg c6] at H
      have c6b0 : decide (t364 < 0) = false := decide_eq_false c6
      clear c6
      have H' := Aside0.mk H
      clear H
      have p363 : 0 ≤ (x5_1 : Int) := of_decide_eq_true as_
      have q363 : x5_1 < (l0.length : Int) := of_decide_eq_true as_
      obtain ⟨ad363, A363_0, c363_0, e363, hx363_0, hl363_0, hi363_0⟩ := at_L1 HR0.out x5_1 p363 q363
      cases e363
      have HR363_0 := Aside0.mk hi363_0
      have HC363_0 := Aside0.mk hl363_0
      clear hi363_0 hl363_0
      replace p363 := eq_true p363
      replace q363 := eq_true q363
      go_wp2_with (first | ((with_reducible refine gate_callee (f := 163) rfl ?_); refine goesL_ (some 17) rfl rfl Try.func163 (by kernel_rfl) rfl #[.slice A363_0 (rd_L1 l0 x5_1).length c363_0, .int .i64 x1_1] rfl ar_ ?_; (with_reducible refine (laws_heldByteS.calls k1 _ _ (rd_L1 l0 x5_1) x1_1 t364 _ ?side1 ?side2 A5.out).mono ?_); (case side1 => exact cS_ HR363_0.out); (case side2 => exact HC363_0.out); rintro e w' ⟨rfl, ⟨nd, rfl⟩⟩; refine ⟨_, rfl, ?_⟩))
      go_roundg k1
      case measure => have := HK1.out; omega
      case rel => exact ⟨(t364), (wrap64 (x5_1 + 1)), (by first | rfl | (simp; done) | (simp [*]; done)), (by first | rfl | (simp; done) | (simp [*]; done)), H', ⟨by have := HK1.out; omega⟩, by repeat (first | exact Drawn0.refl _ | apply Drawn0.step)⟩
    ·rw [if_neg c4] at H
     exact absurd H (by simp)
   ·rw [if_neg c3] at H
    have c3b0 : decide (x5_1 < (l0.length : Int)) = false := decide_eq_false c3
    clear c3
    obtain rfl := Option.some.inj H
    go_wp2
    go_ret
    exact ⟨by first | rfl | (simp; done) | (simp [*]; done), by repeat (first | exact Drawn0.refl _ | apply Drawn0.step)⟩
end Go.Proofs.Ytmkcbbbknbahgaa.P
namespace Go.Proofs.Ytmkcbbbknbahgaa.P
open Go.RowKit Go.Proofs.YtmkcbbbknbahgaaW.PrintWords Go.Proofs.YtmkcbbbknbahgaaW.PrintLast Go.Proofs.YtmkcbbbknbahgaaW.PrintMore
attribute [local go_sem] max2_int min2_int max_two min_two max_three min_three max_four min_four   -- for this text's walks alone
set_option linter.unusedVariables false
set_option linter.unusedSimpArgs false

def laws_heldMemory.f (k : Nat) (l0_0 : List (List Int)) (a1 : Int) : Option (Int) := (laws_heldByteSS.f k l0_0 a1).bind fun t366 => (if t366 < 0 then (some (-1)) else (some t366))

set_option maxHeartbeats 8000000 in
set_option maxRecDepth 100000 in
theorem laws_heldMemory.calls (k : Nat) (A0_0 : Option Addr) (c0_0 : Nat) (l0_0 : List (List Int)) (a1 : Int) (r : Int) (w : World) (hr0_0 : Kd.C (Kd.slice 5 (Kd.int .u8)) w A0_0 l0_0.length l0_0) (hc0_0 : l0_0.length ≤ c0_0) (h : laws_heldMemory.f k l0_0 a1 = some r) :
  Calls Try.prog 65 #[.agg #[.slice A0_0 l0_0.length c0_0], .int .i64 a1] w fun e w' => e = .returned (.int .i64 r) ∧ Below w.heap.size w w' := by
 have hu31 := Try.underlying31
 have HR0_0 := Aside0.mk hr0_0
 have HC0_0 := Aside0.mk hc0_0
 clear hr0_0 hc0_0
 have HB := Aside0.mk (Below.refl w.heap.size w)
 have H : ((laws_heldByteSS.f k l0_0 a1).bind fun t366 => (if t366 < 0 then (some (-1)) else (some t366))) = some r := h
 clear h
 replace H := Option.bind_eq_some_iff.mp H
 obtain ⟨t366, A30, H⟩ := H
 replace H : (if t366 < 0 then (some (-1)) else (some t366)) = some r := H
 have A3 := Aside0.mk A30
 clear A30
 by_cases c4 : t366 < 0
 ·rw [if_pos c4] at H
  have c4b0 : decide (t366 < 0) = true := decide_eq_true c4
  clear c4
  obtain rfl := Option.some.inj H
  go_enter Try.func65, Try.ntmps65
  go_wp2_with (first | ((with_reducible refine gate_dst (N := 2) rfl ?_); refine box_event ?hg (N := 2) ?hd (cs := #[.slice A0_0 l0_0.length c0_0]) (t := 31) ?hr ?_; (case hd => rfl); (case hg => rfl); (case hr => exact gs_); intro gb365 hg w5 hbox hb; have BK365 := Aside0.mk (hbox); have GW365 := gE_ HB hg; have GE365 := gE_ HB hg; replace HB := Aside0.mk (below_step (by repeat (first | (with_reducible first | exact HB.out | apply ba_ | apply bn_ | apply bd_) | exact HB.out)) hb); clear hb hbox hg; obtain ⟨hcz6_0, hfz6_0⟩ := zc1_ BK365) | ((with_reducible refine gate_callee (f := 131) rfl ?_); refine goesL_ (some 8) rfl rfl Try.func131 (by kernel_rfl) rfl #[.slice A0_0 l0_0.length c0_0, .int .i64 a1] rfl ar_ ?_; (with_reducible refine (laws_heldByteSS.calls k _ _ l0_0 a1 t366 _ ?side1 ?side2 A3.out).mono ?_); (case side1 => exact cS_ (Kd.C_below HR0_0.out HB.out)); (case side2 => exact HC0_0.out); rintro e w' ⟨rfl, ⟨nd, rfl⟩⟩; refine ⟨_, rfl, ?_⟩))
  go_ret
  exact ⟨er_, by repeat (first | (with_reducible first | exact HB.out | apply below_alloc | apply pw_below_drewN | apply below_drew1 | refine below_set ?_ GE365.out) | exact HB.out)⟩
 ·rw [if_neg c4] at H
  have c4b0 : decide (t366 < 0) = false := decide_eq_false c4
  clear c4
  obtain rfl := Option.some.inj H
  go_enter Try.func65, Try.ntmps65
  go_wp2_with (first | ((with_reducible refine gate_dst (N := 2) rfl ?_); refine box_event ?hg (N := 2) ?hd (cs := #[.slice A0_0 l0_0.length c0_0]) (t := 31) ?hr ?_; (case hd => rfl); (case hg => rfl); (case hr => exact gs_); intro gb365 hg w7 hbox hb; have BK365 := Aside0.mk (hbox); have GW365 := gE_ HB hg; have GE365 := gE_ HB hg; replace HB := Aside0.mk (below_step (by repeat (first | (with_reducible first | exact HB.out | apply ba_ | apply bn_ | apply bd_) | exact HB.out)) hb); clear hb hbox hg; obtain ⟨hcz8_0, hfz8_0⟩ := zc1_ BK365) | ((with_reducible refine gate_callee (f := 131) rfl ?_); refine goesL_ (some 8) rfl rfl Try.func131 (by kernel_rfl) rfl #[.slice A0_0 l0_0.length c0_0, .int .i64 a1] rfl ar_ ?_; (with_reducible refine (laws_heldByteSS.calls k _ _ l0_0 a1 t366 _ ?side1 ?side2 A3.out).mono ?_); (case side1 => exact cS_ (Kd.C_below HR0_0.out HB.out)); (case side2 => exact HC0_0.out); rintro e w' ⟨rfl, ⟨nd, rfl⟩⟩; refine ⟨_, rfl, ?_⟩))
  go_ret
  exact ⟨er_, by repeat (first | (with_reducible first | exact HB.out | apply below_alloc | apply pw_below_drewN | apply below_drew1 | refine below_set ?_ GE365.out) | exact HB.out)⟩
end Go.Proofs.Ytmkcbbbknbahgaa.P
namespace Go.Proofs.Ytmkcbbbknbahgaa.P
open Go.RowKit Go.Proofs.YtmkcbbbknbahgaaW.PrintWords Go.Proofs.YtmkcbbbknbahgaaW.PrintLast Go.Proofs.YtmkcbbbknbahgaaW.PrintMore
attribute [local go_sem] max2_int min2_int max_two min_two max_three min_three max_four min_four   -- for this text's walks alone
set_option linter.unusedVariables false
set_option linter.unusedSimpArgs false

def laws_heldGap.f (k : Nat) (l0_0 : List (List Int)) (a0_1 : Int) (a0_2 : Int) (a0_3 : Int) (a0_4 : Int) (a0_5 : Int) (a0_6 : Int) (a1 : Int) : Option (Int) := (laws_heldMemory.f k l0_0 a1).bind fun t368 => (if t368 < 0 then (some (-1)) else (some t368))

set_option maxHeartbeats 8000000 in
set_option maxRecDepth 100000 in
theorem laws_heldGap.calls (k : Nat) (A0_0 : Option Addr) (c0_0 : Nat) (l0_0 : List (List Int)) (a0_1 : Int) (a0_2 : Int) (a0_3 : Int) (a0_4 : Int) (a0_5 : Int) (a0_6 : Int) (a1 : Int) (r : Int) (w : World) (hr0_0 : Kd.C (Kd.slice 5 (Kd.int .u8)) w A0_0 l0_0.length l0_0) (hc0_0 : l0_0.length ≤ c0_0) (h : laws_heldGap.f k l0_0 a0_1 a0_2 a0_3 a0_4 a0_5 a0_6 a1 = some r) :
  Calls Try.prog 22 #[.agg #[.slice A0_0 l0_0.length c0_0, .int .i64 a0_1, .int .i64 a0_2, .int .i64 a0_3, .int .i64 a0_4, .int .i64 a0_5, .int .i64 a0_6], .int .i64 a1] w fun e w' => e = .returned (.int .i64 r) ∧ Below w.heap.size w w' := by
 have hu34 := Try.underlying34
 have hu31 := Try.underlying31
 have HR0_0 := Aside0.mk hr0_0
 have HC0_0 := Aside0.mk hc0_0
 clear hr0_0 hc0_0
 have HB := Aside0.mk (Below.refl w.heap.size w)
 have H : ((laws_heldMemory.f k l0_0 a1).bind fun t368 => (if t368 < 0 then (some (-1)) else (some t368))) = some r := h
 clear h
 replace H := Option.bind_eq_some_iff.mp H
 obtain ⟨t368, A30, H⟩ := H
 replace H : (if t368 < 0 then (some (-1)) else (some t368)) = some r := H
 have A3 := Aside0.mk A30
 clear A30
 by_cases c4 : t368 < 0
 ·rw [if_pos c4] at H
  have c4b0 : decide (t368 < 0) = true := decide_eq_true c4
  clear c4
  obtain rfl := Option.some.inj H
  go_enter Try.func22, Try.ntmps22
  go_wp2_with (first | ((with_reducible refine gate_dst (N := 2) rfl ?_); refine box_event ?hg (N := 2) ?hd (cs := #[.slice A0_0 l0_0.length c0_0, .int .i64 a0_1, .int .i64 a0_2, .int .i64 a0_3, .int .i64 a0_4, .int .i64 a0_5, .int .i64 a0_6]) (t := 34) ?hr ?_; (case hd => rfl); (case hg => rfl); (case hr => exact gs_); intro gb367 hg w5 hbox hb; have BK367 := Aside0.mk (hbox); have GW367 := gE_ HB hg; have GE367 := gE_ HB hg; replace HB := Aside0.mk (below_step (by repeat (first | (with_reducible first | exact HB.out | apply ba_ | apply bn_ | apply bd_) | exact HB.out)) hb); clear hb hbox hg; obtain ⟨hcz6_0, hcz6_1, hcz6_2, hcz6_3, hcz6_4, hcz6_5, hcz6_6, hfz6_0, hfz6_1, hfz6_2, hfz6_3, hfz6_4, hfz6_5, hfz6_6⟩ := zc7_ BK367) | ((with_reducible refine gate_callee (f := 65) rfl ?_); refine goesL_ (some 8) rfl rfl Try.func65 (by kernel_rfl) rfl #[.agg #[.slice A0_0 l0_0.length c0_0], .int .i64 a1] rfl ar_ ?_; (with_reducible refine (laws_heldMemory.calls k _ _ l0_0 a1 t368 _ ?side1 ?side2 A3.out).mono ?_); (case side1 => exact cS_ (Kd.C_below HR0_0.out HB.out)); (case side2 => exact HC0_0.out); rintro e w7 ⟨rfl, hb⟩; refine ⟨_, rfl, ?_⟩; replace BK367 := bB_ BK367 hb; replace HB := Aside0.mk (below_step (by repeat (first | (with_reducible first | exact HB.out | apply ba_ | apply bn_ | apply bd_ | refine bset_ ?_ (by assumption)) | exact HB.out)) hb); (try clear hb); (try clear hb2); (try clear hk); (try clear hi)))
  go_ret
  exact ⟨er_, by repeat (first | (with_reducible first | exact HB.out | apply below_alloc | apply pw_below_drewN | apply below_drew1 | refine below_set ?_ GE367.out) | exact HB.out)⟩
 ·rw [if_neg c4] at H
  have c4b0 : decide (t368 < 0) = false := decide_eq_false c4
  clear c4
  obtain rfl := Option.some.inj H
  go_enter Try.func22, Try.ntmps22
  go_wp2_with (first | ((with_reducible refine gate_dst (N := 2) rfl ?_); refine box_event ?hg (N := 2) ?hd (cs := #[.slice A0_0 l0_0.length c0_0, .int .i64 a0_1, .int .i64 a0_2, .int .i64 a0_3, .int .i64 a0_4, .int .i64 a0_5, .int .i64 a0_6]) (t := 34) ?hr ?_; (case hd => rfl); (case hg => rfl); (case hr => exact gs_); intro gb367 hg w8 hbox hb; have BK367 := Aside0.mk (hbox); have GW367 := gE_ HB hg; have GE367 := gE_ HB hg; replace HB := Aside0.mk (below_step (by repeat (first | (with_reducible first | exact HB.out | apply ba_ | apply bn_ | apply bd_) | exact HB.out)) hb); clear hb hbox hg; obtain ⟨hcz9_0, hcz9_1, hcz9_2, hcz9_3, hcz9_4, hcz9_5, hcz9_6, hfz9_0, hfz9_1, hfz9_2, hfz9_3, hfz9_4, hfz9_5, hfz9_6⟩ := zc7_ BK367) | ((with_reducible refine gate_callee (f := 65) rfl ?_); refine goesL_ (some 8) rfl rfl Try.func65 (by kernel_rfl) rfl #[.agg #[.slice A0_0 l0_0.length c0_0], .int .i64 a1] rfl ar_ ?_; (with_reducible refine (laws_heldMemory.calls k _ _ l0_0 a1 t368 _ ?side1 ?side2 A3.out).mono ?_); (case side1 => exact cS_ (Kd.C_below HR0_0.out HB.out)); (case side2 => exact HC0_0.out); rintro e w10 ⟨rfl, hb⟩; refine ⟨_, rfl, ?_⟩; replace BK367 := bB_ BK367 hb; replace HB := Aside0.mk (below_step (by repeat (first | (with_reducible first | exact HB.out | apply ba_ | apply bn_ | apply bd_ | refine bset_ ?_ (by assumption)) | exact HB.out)) hb); (try clear hb); (try clear hb2); (try clear hk); (try clear hi)))
  go_ret
  exact ⟨er_, by repeat (first | (with_reducible first | exact HB.out | apply below_alloc | apply pw_below_drewN | apply below_drew1 | refine below_set ?_ GE367.out) | exact HB.out)⟩
end Go.Proofs.Ytmkcbbbknbahgaa.P
namespace Go.Proofs.Ytmkcbbbknbahgaa.P
open Go.RowKit Go.Proofs.YtmkcbbbknbahgaaW.PrintWords Go.Proofs.YtmkcbbbknbahgaaW.PrintLast Go.Proofs.YtmkcbbbknbahgaaW.PrintMore
set_option linter.unusedVariables false
set_option linter.unusedSimpArgs false

set_option maxHeartbeats 8000000 in
set_option maxRecDepth 100000 in
theorem FnExactPutBytes.walk (k : Nat) (A0_0 : Option Addr) (c0_0 : Nat) (l0_0 : List (List Int)) (a0_1 : Int) (a0_2 : Int) (a0_3 : Int) (a0_4 : Int) (a0_5 : Int) (a0_6 : Int) (A1 : Option Addr) (c1 : Nat) (l1 : List Int) (r5 : Int) (r17 : List (List Int)) (r18 : Int) (r19 : Int) (r20 : Int) (r21 : Int) (r22 : Int) (r23 : Int) (r30 : List Int) (r37 : List (List Int)) (r38 : Int) (r39 : Int) (r40 : Int) (r41 : Int) (r42 : Int) (r43 : Int) (r44 : Bool) (m129 : Int) (x130 : List (List Int)) (m136 : Int) (x137 : List Int) (m170 : Int) (x171 : List (List Int)) (w : World) (HR0_0 : Kd.C (Kd.slice 5 (Kd.int .u8)) w A0_0 l0_0.length l0_0) (HC0_0 : l0_0.length ≤ c0_0) (HR1 : Kd.C (Kd.int .u8) w A1 l1.length l1) (HC1 : l1.length ≤ c1) (g235 : ¬ 1048576 < l1.length) (e6 : laws_szGap.f k l0_0 a0_1 a0_2 a0_3 a0_4 a0_5 a0_6 1048576 = some r5) (n_r5 : ¬ r5 < 0) (e24 : laws_toGap.f k l0_0 a0_1 a0_2 a0_3 a0_4 a0_5 a0_6 = some (r17, r18, r19, r20, r21, r22, r23)) (e31 : laws_toByteS.f k l1 = some r30) (e45 : spec_PutBytes.f k r17 r18 r19 r20 r21 r22 r23 r30 = some (r37, r38, r39, r40, r41, r42, r43, r44)) (e83 : impl_PutBytes.f k r17 r18 r19 r20 r21 r22 r23 r30 = some (r37, r38, r39, r40, r41, r42, r43, r44)) (e100 : laws_eqGap.f k r37 r38 r39 r40 r41 r42 r43 r37 r38 r39 r40 r41 r42 r43 = some true) (e110 : laws_eqGap.f k r17 r18 r19 r20 r21 r22 r23 r17 r18 r19 r20 r21 r22 r23 = some true) (e118 : laws_eqByteS.f k r30 r30 = some true) (e131 : laws_markGap.f k r17 1 = some (m129, x130)) (e138 : laws_markByteS.f k r30 m129 = some (m136, x137)) (n_m136 : ¬ m136 < 0) (e172 : laws_markGap.f k r37 1 = some (m170, x171)) (e185 : laws_heldGap.f k x171 r38 r39 r40 r41 r42 r43 1 = some m170) (n_m170 : ¬ m170 < 0) :
    Calls Try.prog 3 #[.agg #[.slice A0_0 l0_0.length c0_0, .int .i64 a0_1, .int .i64 a0_2, .int .i64 a0_3, .int .i64 a0_4, .int .i64 a0_5, .int .i64 a0_6], .slice A1 l1.length c1] w fun e w' => e = .returned (.bool true) ∧ Below w.heap.size w w' := by
  have hu28 := Try.underlying28
  have hu34 := Try.underlying34
  replace HR0_0 := Aside0.mk HR0_0
  replace HC0_0 := Aside0.mk HC0_0
  replace HR1 := Aside0.mk HR1
  replace HC1 := Aside0.mk HC1
  have g235b : decide (1048576 < l1.length) = false := decide_eq_false g235
  have g235c : decide (1048576 < (l1.length : Int)) = false := decide_eq_false (by omega)
  clear g235
  replace e6 := Aside0.mk e6
  replace n_r5 := decide_eq_false n_r5
  replace e24 := Aside0.mk e24
  replace e31 := Aside0.mk e31
  replace e45 := Aside0.mk e45
  replace e83 := Aside0.mk e83
  replace e100 := Aside0.mk e100
  replace e110 := Aside0.mk e110
  replace e118 := Aside0.mk e118
  replace e131 := Aside0.mk e131
  replace e138 := Aside0.mk e138
  replace n_m136 := decide_eq_false n_m136
  replace e172 := Aside0.mk e172
  replace e185 := Aside0.mk e185
  replace n_m170 := decide_eq_false n_m170
  have HB := Aside0.mk (Below.refl w.heap.size w)
  go_enter Try.func3, Try.ntmps3
  go_wp2_with fail
  have HA2 := Below.alloc (Below.refl w.heap.size w) (Nat.le_refl _) (.cells #[.slice A0_0 l0_0.length c0_0, .int .i64 a0_1, .int .i64 a0_2, .int .i64 a0_3, .int .i64 a0_4, .int .i64 a0_5, .int .i64 a0_6] 28)
  have BK1 := Aside0.mk (heap_alloc_new w (.cells #[.slice A0_0 l0_0.length c0_0, .int .i64 a0_1, .int .i64 a0_2, .int .i64 a0_3, .int .i64 a0_4, .int .i64 a0_5, .int .i64 a0_6] 28))
  replace HB := Aside0.mk (below_step HB.out HA2)
  have Z3 := Aside0.mk (show w.heap.size < (w.alloc (.cells #[.slice A0_0 l0_0.length c0_0, .int .i64 a0_1, .int .i64 a0_2, .int .i64 a0_3, .int .i64 a0_4, .int .i64 a0_5, .int .i64 a0_6] 28)).heap.size by simp)
  clear HA2
  refine (laws_szGap.calls k A0_0 c0_0 l0_0 a0_1 a0_2 a0_3 a0_4 a0_5 a0_6 1048576 r5 (w.alloc (.cells #[.slice A0_0 l0_0.length c0_0, .int .i64 a0_1, .int .i64 a0_2, .int .i64 a0_3, .int .i64 a0_4, .int .i64 a0_5, .int .i64 a0_6] 28)) (Kd.C_below HR0_0.out HB.out) HC0_0.out e6.out).mono ?_
  rintro e w4 ⟨rfl, hb⟩
  replace BK1 := Aside0.mk (blk_below BK1.out hb)
  have Z7 := Aside0.mk (below_size hb)
  replace HB := Aside0.mk (below_step HB.out hb)
  clear hb 
  have hz8 : w4.cell? ⟨w.heap.size, 0, none⟩ = some (.slice A0_0 l0_0.length c0_0) := (blk_cell BK1.out 0).trans rfl
  have hz9 : w4.cell? ⟨w.heap.size, 1, none⟩ = some (.int .i64 a0_1) := (blk_cell BK1.out 1).trans rfl
  have hz10 : w4.cell? ⟨w.heap.size, 2, none⟩ = some (.int .i64 a0_2) := (blk_cell BK1.out 2).trans rfl
  have hz11 : w4.cell? ⟨w.heap.size, 3, none⟩ = some (.int .i64 a0_3) := (blk_cell BK1.out 3).trans rfl
  have hz12 : w4.cell? ⟨w.heap.size, 4, none⟩ = some (.int .i64 a0_4) := (blk_cell BK1.out 4).trans rfl
  have hz13 : w4.cell? ⟨w.heap.size, 5, none⟩ = some (.int .i64 a0_5) := (blk_cell BK1.out 5).trans rfl
  have hz14 : w4.cell? ⟨w.heap.size, 6, none⟩ = some (.int .i64 a0_6) := (blk_cell BK1.out 6).trans rfl
  have hl15 : w.heap.size < w4.heap.size := blk_lt BK1.out
  go_wp2_with fail
  clear hz8 hz9 hz10 hz11 hz12 hz13 hz14 hl15
  refine (laws_toGap.calls k A0_0 c0_0 l0_0 a0_1 a0_2 a0_3 a0_4 a0_5 a0_6 r17 r18 r19 r20 r21 r22 r23 w4 (Kd.C_below HR0_0.out HB.out) HC0_0.out e24.out).mono ?_
  rintro e w16 ⟨v0_w16, rfl, h0_w16, hb⟩
  replace BK1 := Aside0.mk (blk_below BK1.out hb)
  obtain ⟨A25, c26, rfl⟩ := Kd.S_slice h0_w16
  have O27 := Aside0.mk (show Kd.S (Kd.slice 5 (Kd.int .u8)) 29 w16 w.heap.size (Seg w4.heap.size w16.heap.size w16 [29, 5]) (.slice A25 r17.length c26) r17 from Kd.S_lower (Kd.S_mono (Kd.S_bound h0_w16) (fun k_ hk => ⟨hk.2.1, hk.2.2.1, hk.2.2.2⟩)) (below_size HB.out))
  have Z28 := Aside0.mk (below_size hb)
  replace HB := Aside0.mk (below_step HB.out hb)
  clear hb h0_w16
  go_wp2_with fail
  refine (laws_toByteS.calls k A1 c1 l1 r30 w16 (Kd.C_below HR1.out HB.out) HC1.out e31.out).mono ?_
  rintro e w29 ⟨v0_w29, rfl, h0_w29, hb⟩
  replace BK1 := Aside0.mk (blk_below BK1.out hb)
  replace O27 := Aside0.mk (Kd.S_below O27.out hb)
  obtain ⟨A32, c33, rfl⟩ := Kd.R_slice h0_w29
  have O34 := Aside0.mk (show Kd.R (Kd.int .u8) 5 w29 w.heap.size (Seg w16.heap.size w29.heap.size w29 [5]) (.slice A32 r30.length c33) r30 from Kd.R_lower (Kd.R_mono (Kd.R_bound h0_w29) (fun k_ hk => ⟨hk.2.1, hk.2.2.1, hk.2.2.2⟩)) (below_size HB.out))
  have Z35 := Aside0.mk (below_size hb)
  replace HB := Aside0.mk (below_step HB.out hb)
  clear hb h0_w29
  go_wp2_with fail
  refine (spec_PutBytes.calls k A25 c26 r17 r18 r19 r20 r21 r22 r23 A32 c33 r30 r37 r38 r39 r40 r41 r42 r43 r44 w29 (Kd.S_reads' O27.out).2.2 (Kd.S_reads' O27.out).2.1 (Kd.R_reads' O34.out).2.2 (Kd.R_reads' O34.out).2.1 e45.out).mono ?_
  rintro e w36 ⟨v0_w36, rfl, h0_w36, hb⟩
  replace BK1 := Aside0.mk (blk_below BK1.out hb)
  replace O27 := Aside0.mk (Kd.S_below O27.out hb)
  replace O34 := Aside0.mk (Kd.R_below O34.out hb)
  obtain ⟨A46, c47, rfl⟩ := Kd.S_slice h0_w36
  have O48 := Aside0.mk (show Kd.S (Kd.slice 5 (Kd.int .u8)) 29 w36 w.heap.size (Seg w29.heap.size w36.heap.size w36 [29, 5]) (.slice A46 r37.length c47) r37 from Kd.S_lower (Kd.S_mono (Kd.S_bound h0_w36) (fun k_ hk => ⟨hk.2.1, hk.2.2.1, hk.2.2.2⟩)) (below_size HB.out))
  have Z49 := Aside0.mk (below_size hb)
  replace HB := Aside0.mk (below_step HB.out hb)
  clear hb h0_w36
  clear O27 O34
  have hz50 : w36.cell? ⟨w.heap.size, 0, none⟩ = some (.slice A0_0 l0_0.length c0_0) := (blk_cell BK1.out 0).trans rfl
  have hz51 : w36.cell? ⟨w.heap.size, 1, none⟩ = some (.int .i64 a0_1) := (blk_cell BK1.out 1).trans rfl
  have hz52 : w36.cell? ⟨w.heap.size, 2, none⟩ = some (.int .i64 a0_2) := (blk_cell BK1.out 2).trans rfl
  have hz53 : w36.cell? ⟨w.heap.size, 3, none⟩ = some (.int .i64 a0_3) := (blk_cell BK1.out 3).trans rfl
  have hz54 : w36.cell? ⟨w.heap.size, 4, none⟩ = some (.int .i64 a0_4) := (blk_cell BK1.out 4).trans rfl
  have hz55 : w36.cell? ⟨w.heap.size, 5, none⟩ = some (.int .i64 a0_5) := (blk_cell BK1.out 5).trans rfl
  have hz56 : w36.cell? ⟨w.heap.size, 6, none⟩ = some (.int .i64 a0_6) := (blk_cell BK1.out 6).trans rfl
  have hl57 : w.heap.size < w36.heap.size := blk_lt BK1.out
  go_wp2_with fail
  clear hz50 hz51 hz52 hz53 hz54 hz55 hz56 hl57
  have HA59 := Below.alloc (Below.refl w36.heap.size w36) (Nat.le_refl _) (.cells #[.slice A46 r37.length c47, .int .i64 r38, .int .i64 r39, .int .i64 r40, .int .i64 r41, .int .i64 r42, .int .i64 r43] 34)
  replace BK1 := Aside0.mk (blk_below BK1.out HA59)
  replace O48 := Aside0.mk (Kd.S_below O48.out HA59)
  have BK58 := Aside0.mk (heap_alloc_new w36 (.cells #[.slice A46 r37.length c47, .int .i64 r38, .int .i64 r39, .int .i64 r40, .int .i64 r41, .int .i64 r42, .int .i64 r43] 34))
  replace HB := Aside0.mk (below_step HB.out HA59)
  have Z60 := Aside0.mk (show w36.heap.size < (w36.alloc (.cells #[.slice A46 r37.length c47, .int .i64 r38, .int .i64 r39, .int .i64 r40, .int .i64 r41, .int .i64 r42, .int .i64 r43] 34)).heap.size by simp)
  clear HA59
  refine (laws_toGap.calls k A0_0 c0_0 l0_0 a0_1 a0_2 a0_3 a0_4 a0_5 a0_6 r17 r18 r19 r20 r21 r22 r23 (w36.alloc (.cells #[.slice A46 r37.length c47, .int .i64 r38, .int .i64 r39, .int .i64 r40, .int .i64 r41, .int .i64 r42, .int .i64 r43] 34)) (Kd.C_below HR0_0.out HB.out) HC0_0.out e24.out).mono ?_
  rintro e w61 ⟨v0_w61, rfl, h0_w61, hb⟩
  replace BK1 := Aside0.mk (blk_below BK1.out hb)
  replace O48 := Aside0.mk (Kd.S_below O48.out hb)
  replace BK58 := Aside0.mk (blk_below BK58.out hb)
  obtain ⟨A62, c63, rfl⟩ := Kd.S_slice h0_w61
  have O64 := Aside0.mk (show Kd.S (Kd.slice 5 (Kd.int .u8)) 29 w61 w.heap.size (Seg (w36.heap.size + 1) w61.heap.size w61 [29, 5]) (.slice A62 r17.length c63) r17 from Kd.S_lower (Kd.S_mono (Kd.S_bound h0_w61) (fun k_ hk => ⟨(by simpa using hk.2.1), hk.2.2.1, hk.2.2.2⟩)) (below_size HB.out))
  have Z65 := Aside0.mk (below_size hb)
  replace HB := Aside0.mk (below_step HB.out hb)
  clear hb h0_w61
  go_wp2_with fail
  have HA67 := Below.alloc (Below.refl w61.heap.size w61) (Nat.le_refl _) (.cells #[.slice A62 r17.length c63, .int .i64 r18, .int .i64 r19, .int .i64 r20, .int .i64 r21, .int .i64 r22, .int .i64 r23] 34)
  replace BK1 := Aside0.mk (blk_below BK1.out HA67)
  replace O48 := Aside0.mk (Kd.S_below O48.out HA67)
  replace BK58 := Aside0.mk (blk_below BK58.out HA67)
  replace O64 := Aside0.mk (Kd.S_below O64.out HA67)
  have BK66 := Aside0.mk (heap_alloc_new w61 (.cells #[.slice A62 r17.length c63, .int .i64 r18, .int .i64 r19, .int .i64 r20, .int .i64 r21, .int .i64 r22, .int .i64 r23] 34))
  replace HB := Aside0.mk (below_step HB.out HA67)
  have Z68 := Aside0.mk (show w61.heap.size < (w61.alloc (.cells #[.slice A62 r17.length c63, .int .i64 r18, .int .i64 r19, .int .i64 r20, .int .i64 r21, .int .i64 r22, .int .i64 r23] 34)).heap.size by simp)
  clear HA67
  refine (laws_toByteS.calls k A1 c1 l1 r30 (w61.alloc (.cells #[.slice A62 r17.length c63, .int .i64 r18, .int .i64 r19, .int .i64 r20, .int .i64 r21, .int .i64 r22, .int .i64 r23] 34)) (Kd.C_below HR1.out HB.out) HC1.out e31.out).mono ?_
  rintro e w69 ⟨v0_w69, rfl, h0_w69, hb⟩
  replace BK1 := Aside0.mk (blk_below BK1.out hb)
  replace O48 := Aside0.mk (Kd.S_below O48.out hb)
  replace BK58 := Aside0.mk (blk_below BK58.out hb)
  replace O64 := Aside0.mk (Kd.S_below O64.out hb)
  replace BK66 := Aside0.mk (blk_below BK66.out hb)
  obtain ⟨A70, c71, rfl⟩ := Kd.R_slice h0_w69
  have O72 := Aside0.mk (show Kd.R (Kd.int .u8) 5 w69 w.heap.size (Seg (w61.heap.size + 1) w69.heap.size w69 [5]) (.slice A70 r30.length c71) r30 from Kd.R_lower (Kd.R_mono (Kd.R_bound h0_w69) (fun k_ hk => ⟨(by simpa using hk.2.1), hk.2.2.1, hk.2.2.2⟩)) (below_size HB.out))
  have Z73 := Aside0.mk (below_size hb)
  replace HB := Aside0.mk (below_step HB.out hb)
  clear hb h0_w69
  have hz74 : w69.cell? ⟨w61.heap.size, 0, none⟩ = some (.slice A62 r17.length c63) := (blk_cell BK66.out 0).trans rfl
  have hz75 : w69.cell? ⟨w61.heap.size, 1, none⟩ = some (.int .i64 r18) := (blk_cell BK66.out 1).trans rfl
  have hz76 : w69.cell? ⟨w61.heap.size, 2, none⟩ = some (.int .i64 r19) := (blk_cell BK66.out 2).trans rfl
  have hz77 : w69.cell? ⟨w61.heap.size, 3, none⟩ = some (.int .i64 r20) := (blk_cell BK66.out 3).trans rfl
  have hz78 : w69.cell? ⟨w61.heap.size, 4, none⟩ = some (.int .i64 r21) := (blk_cell BK66.out 4).trans rfl
  have hz79 : w69.cell? ⟨w61.heap.size, 5, none⟩ = some (.int .i64 r22) := (blk_cell BK66.out 5).trans rfl
  have hz80 : w69.cell? ⟨w61.heap.size, 6, none⟩ = some (.int .i64 r23) := (blk_cell BK66.out 6).trans rfl
  have hl81 : w61.heap.size < w69.heap.size := blk_lt BK66.out
  go_wp2_with fail
  clear hz74 hz75 hz76 hz77 hz78 hz79 hz80 hl81
  refine (impl_PutBytes.calls k A62 c63 r17 r18 r19 r20 r21 r22 r23 A70 c71 r30 r37 r38 r39 r40 r41 r42 r43 r44 w69 (Kd.S_reads' O64.out).2.2 (Kd.S_reads' O64.out).2.1 (Kd.R_reads' O72.out).2.2 (Kd.R_reads' O72.out).2.1 e83.out).mono ?_
  rintro e w82 ⟨v0_w82, rfl, h0_w82, hb⟩
  replace BK1 := Aside0.mk (blk_below BK1.out hb)
  replace O48 := Aside0.mk (Kd.S_below O48.out hb)
  replace BK58 := Aside0.mk (blk_below BK58.out hb)
  replace O64 := Aside0.mk (Kd.S_below O64.out hb)
  replace BK66 := Aside0.mk (blk_below BK66.out hb)
  replace O72 := Aside0.mk (Kd.R_below O72.out hb)
  obtain ⟨A84, c85, rfl⟩ := Kd.S_slice h0_w82
  have O86 := Aside0.mk (show Kd.S (Kd.slice 5 (Kd.int .u8)) 29 w82 w.heap.size (Seg w69.heap.size w82.heap.size w82 [29, 5]) (.slice A84 r37.length c85) r37 from Kd.S_lower (Kd.S_mono (Kd.S_bound h0_w82) (fun k_ hk => ⟨hk.2.1, hk.2.2.1, hk.2.2.2⟩)) (below_size HB.out))
  have Z87 := Aside0.mk (below_size hb)
  replace HB := Aside0.mk (below_step HB.out hb)
  clear hb h0_w82
  have hz88 : w82.cell? ⟨w36.heap.size, 0, none⟩ = some (.slice A46 r37.length c47) := (blk_cell BK58.out 0).trans rfl
  have hz89 : w82.cell? ⟨w36.heap.size, 1, none⟩ = some (.int .i64 r38) := (blk_cell BK58.out 1).trans rfl
  have hz90 : w82.cell? ⟨w36.heap.size, 2, none⟩ = some (.int .i64 r39) := (blk_cell BK58.out 2).trans rfl
  have hz91 : w82.cell? ⟨w36.heap.size, 3, none⟩ = some (.int .i64 r40) := (blk_cell BK58.out 3).trans rfl
  have hz92 : w82.cell? ⟨w36.heap.size, 4, none⟩ = some (.int .i64 r41) := (blk_cell BK58.out 4).trans rfl
  have hz93 : w82.cell? ⟨w36.heap.size, 5, none⟩ = some (.int .i64 r42) := (blk_cell BK58.out 5).trans rfl
  have hz94 : w82.cell? ⟨w36.heap.size, 6, none⟩ = some (.int .i64 r43) := (blk_cell BK58.out 6).trans rfl
  have hl95 : w36.heap.size < w82.heap.size := blk_lt BK58.out
  go_wp2_with fail
  clear hz88 hz89 hz90 hz91 hz92 hz93 hz94 hl95
  have HA97 := Below.alloc (Below.refl w82.heap.size w82) (Nat.le_refl _) (.cells #[.slice A84 r37.length c85, .int .i64 r38, .int .i64 r39, .int .i64 r40, .int .i64 r41, .int .i64 r42, .int .i64 r43] 34)
  replace BK1 := Aside0.mk (blk_below BK1.out HA97)
  replace O48 := Aside0.mk (Kd.S_below O48.out HA97)
  replace BK58 := Aside0.mk (blk_below BK58.out HA97)
  replace O64 := Aside0.mk (Kd.S_below O64.out HA97)
  replace BK66 := Aside0.mk (blk_below BK66.out HA97)
  replace O72 := Aside0.mk (Kd.R_below O72.out HA97)
  replace O86 := Aside0.mk (Kd.S_below O86.out HA97)
  have BK96 := Aside0.mk (heap_alloc_new w82 (.cells #[.slice A84 r37.length c85, .int .i64 r38, .int .i64 r39, .int .i64 r40, .int .i64 r41, .int .i64 r42, .int .i64 r43] 34))
  replace HB := Aside0.mk (below_step HB.out HA97)
  have Z98 := Aside0.mk (show w82.heap.size < (w82.alloc (.cells #[.slice A84 r37.length c85, .int .i64 r38, .int .i64 r39, .int .i64 r40, .int .i64 r41, .int .i64 r42, .int .i64 r43] 34)).heap.size by simp)
  clear HA97
  refine (laws_eqGap.calls k A84 c85 r37 r38 r39 r40 r41 r42 r43 A46 c47 r37 r38 r39 r40 r41 r42 r43 true (w82.alloc (.cells #[.slice A84 r37.length c85, .int .i64 r38, .int .i64 r39, .int .i64 r40, .int .i64 r41, .int .i64 r42, .int .i64 r43] 34)) (Kd.S_reads' O86.out).2.2 (Kd.S_reads' O86.out).2.1 (Kd.S_reads' O48.out).2.2 (Kd.S_reads' O48.out).2.1 e100.out).mono ?_
  rintro e w99 ⟨rfl, hb⟩
  replace BK1 := Aside0.mk (blk_below BK1.out hb)
  replace O48 := Aside0.mk (Kd.S_below O48.out hb)
  replace BK58 := Aside0.mk (blk_below BK58.out hb)
  replace O64 := Aside0.mk (Kd.S_below O64.out hb)
  replace BK66 := Aside0.mk (blk_below BK66.out hb)
  replace O72 := Aside0.mk (Kd.R_below O72.out hb)
  replace O86 := Aside0.mk (Kd.S_below O86.out hb)
  replace BK96 := Aside0.mk (blk_below BK96.out hb)
  have Z101 := Aside0.mk (below_size hb)
  replace HB := Aside0.mk (below_step HB.out hb)
  clear hb 
  go_wp2_with fail
  refine start_ (n := 5) (S := fun w' => w'.cell? ⟨w61.heap.size, 0, none⟩ = some (.slice A62 r17.length c63) ∧ w'.cell? ⟨w61.heap.size, 1, none⟩ = some (.int .i64 r18) ∧ w'.cell? ⟨w61.heap.size, 2, none⟩ = some (.int .i64 r19) ∧ w'.cell? ⟨w61.heap.size, 3, none⟩ = some (.int .i64 r20) ∧ w'.cell? ⟨w61.heap.size, 4, none⟩ = some (.int .i64 r21) ∧ w'.cell? ⟨w61.heap.size, 5, none⟩ = some (.int .i64 r22) ∧ w'.cell? ⟨w61.heap.size, 6, none⟩ = some (.int .i64 r23) ∧ w'.cell? ⟨w.heap.size, 0, none⟩ = some (.slice A0_0 l0_0.length c0_0) ∧ w'.cell? ⟨w.heap.size, 1, none⟩ = some (.int .i64 a0_1) ∧ w'.cell? ⟨w.heap.size, 2, none⟩ = some (.int .i64 a0_2) ∧ w'.cell? ⟨w.heap.size, 3, none⟩ = some (.int .i64 a0_3) ∧ w'.cell? ⟨w.heap.size, 4, none⟩ = some (.int .i64 a0_4) ∧ w'.cell? ⟨w.heap.size, 5, none⟩ = some (.int .i64 a0_5) ∧ w'.cell? ⟨w.heap.size, 6, none⟩ = some (.int .i64 a0_6)) (ds := []) #[false, false, false, false, false] (by kernel_rfl) rfl rfl ⟨(blk_cell BK66.out 0).trans rfl, (blk_cell BK66.out 1).trans rfl, (blk_cell BK66.out 2).trans rfl, (blk_cell BK66.out 3).trans rfl, (blk_cell BK66.out 4).trans rfl, (blk_cell BK66.out 5).trans rfl, (blk_cell BK66.out 6).trans rfl, (blk_cell BK1.out 0).trans rfl, (blk_cell BK1.out 1).trans rfl, (blk_cell BK1.out 2).trans rfl, (blk_cell BK1.out 3).trans rfl, (blk_cell BK1.out 4).trans rfl, (blk_cell BK1.out 5).trans rfl, (blk_cell BK1.out 6).trans rfl⟩ (fun hHeld => ?_)
  replace BK1 := Aside0.mk (blk_drew BK1.out)
  replace O48 := Aside0.mk (Kd.S_drew O48.out)
  replace BK58 := Aside0.mk (blk_drew BK58.out)
  replace O64 := Aside0.mk (Kd.S_drew O64.out)
  replace BK66 := Aside0.mk (blk_drew BK66.out)
  replace O72 := Aside0.mk (Kd.R_drew O72.out)
  replace O86 := Aside0.mk (Kd.S_drew O86.out)
  replace BK96 := Aside0.mk (blk_drew BK96.out)
  replace HB := Aside0.mk (below_drew1 HB.out)
  have Z103 := Aside0.mk (show w99.heap.size ≤ w99.drew.heap.size from Nat.le_refl _)
  generalize w99.drew = w102 at BK1 O48 BK58 O64 BK66 O72 O86 BK96 HB Z103 hHeld ⊢
  refine take_ (i := 0) (N := some 52) (v := ?_) (a' := ?_) #[true, false, false, false, false] rfl rfl (by kernel_rfl) (fun _ _ _ h => h) (Or.inl ⟨by rfl, ?_⟩) hHeld ?_ ?_
  rotate_left
  · rintro w' ⟨s0, s1, s2, s3, s4, s5, s6, s7, s8, s9, s10, s11, s12, s13⟩
    go_simp
    with_reducible rfl
  rotate_left
  · simp only [Act.put, List.setIfInBounds_toArray, List.set_cons_zero, List.set_cons_succ, i64_w, i32_w]
    rfl
  refine take_ (i := 1) (N := some 53) (v := ?_) (a' := ?_) #[true, true, false, false, false] rfl rfl (by kernel_rfl) (fun _ _ _ h => h) (Or.inl ⟨by rfl, ?_⟩) hHeld ?_ ?_
  rotate_left
  · rintro w' ⟨s0, s1, s2, s3, s4, s5, s6, s7, s8, s9, s10, s11, s12, s13⟩
    go_simp
    with_reducible rfl
  rotate_left
  · simp only [Act.put, List.setIfInBounds_toArray, List.set_cons_zero, List.set_cons_succ, i64_w, i32_w]
    rfl
  refine one_ (i := 2) (N := some 54) #[true, true, true, false, false] rfl rfl (by kernel_rfl) (by decide) (fun K hK => ?_)
  refine goes_ Try.func15 (by kernel_rfl) rfl #[.agg #[.slice A0_0 l0_0.length c0_0, .int .i64 a0_1, .int .i64 a0_2, .int .i64 a0_3, .int .i64 a0_4, .int .i64 a0_5, .int .i64 a0_6]] (by rfl) rfl rfl (by (try simp only [List.map_toArray, List.map_cons, List.map_nil]); first | done | rfl) ?_
  with_reducible refine (laws_toGap.calls k A0_0 c0_0 l0_0 a0_1 a0_2 a0_3 a0_4 a0_5 a0_6 r17 r18 r19 r20 r21 r22 r23 w102 (Kd.C_below HR0_0.out HB.out) HC0_0.out e24.out).mono ?_
  rintro e w104 ⟨v0_w104, rfl, h0_w104, hb⟩
  refine ⟨_, rfl, ?_⟩
  replace BK1 := Aside0.mk (blk_below BK1.out hb)
  replace O48 := Aside0.mk (Kd.S_below O48.out hb)
  replace BK58 := Aside0.mk (blk_below BK58.out hb)
  replace O64 := Aside0.mk (Kd.S_below O64.out hb)
  replace BK66 := Aside0.mk (blk_below BK66.out hb)
  replace O72 := Aside0.mk (Kd.R_below O72.out hb)
  replace O86 := Aside0.mk (Kd.S_below O86.out hb)
  replace BK96 := Aside0.mk (blk_below BK96.out hb)
  obtain ⟨A105, c106, rfl⟩ := Kd.S_slice h0_w104
  have O107 := Aside0.mk (show Kd.S (Kd.slice 5 (Kd.int .u8)) 29 w104 w.heap.size (Seg w102.heap.size w104.heap.size w104 [29, 5]) (.slice A105 r17.length c106) r17 from Kd.S_lower (Kd.S_mono (Kd.S_bound h0_w104) (fun k_ hk => ⟨hk.2.1, hk.2.2.1, hk.2.2.2⟩)) (below_size HB.out))
  have Z108 := Aside0.mk (below_size hb)
  replace HB := Aside0.mk (below_step HB.out hb)
  clear hb h0_w104
  refine hK.out _ _ ⟨(blk_cell BK66.out 0).trans rfl, (blk_cell BK66.out 1).trans rfl, (blk_cell BK66.out 2).trans rfl, (blk_cell BK66.out 3).trans rfl, (blk_cell BK66.out 4).trans rfl, (blk_cell BK66.out 5).trans rfl, (blk_cell BK66.out 6).trans rfl, (blk_cell BK1.out 0).trans rfl, (blk_cell BK1.out 1).trans rfl, (blk_cell BK1.out 2).trans rfl, (blk_cell BK1.out 3).trans rfl, (blk_cell BK1.out 4).trans rfl, (blk_cell BK1.out 5).trans rfl, (blk_cell BK1.out 6).trans rfl⟩ (fun hHeld => ?_)
  clear hK K
  refine norm_ (a' := ?_) ?_ ?_
  rotate_left
  · show Act.put _ (some 54) _ = _
    simp only [Act.put, List.setIfInBounds_toArray, List.set_cons_zero, List.set_cons_succ, i64_w, i32_w]
    rfl
  refine one_ (i := 3) (N := some 55) #[true, true, true, true, false] rfl rfl (by kernel_rfl) (by decide) (fun K hK => ?_)
  refine goes_ Try.func18 (by kernel_rfl) rfl #[.agg #[.slice A62 r17.length c63, .int .i64 r18, .int .i64 r19, .int .i64 r20, .int .i64 r21, .int .i64 r22, .int .i64 r23], .agg #[.slice A105 r17.length c106, .int .i64 r18, .int .i64 r19, .int .i64 r20, .int .i64 r21, .int .i64 r22, .int .i64 r23]] (by rfl) rfl rfl (by (try simp only [List.map_toArray, List.map_cons, List.map_nil]); first | done | rfl) ?_
  with_reducible refine (laws_eqGap.calls k A62 c63 r17 r18 r19 r20 r21 r22 r23 A105 c106 r17 r18 r19 r20 r21 r22 r23 true w104 (Kd.S_reads' O64.out).2.2 (Kd.S_reads' O64.out).2.1 (Kd.S_reads' O107.out).2.2 (Kd.S_reads' O107.out).2.1 e110.out).mono ?_
  rintro e w109 ⟨rfl, hb⟩
  refine ⟨_, rfl, ?_⟩
  replace BK1 := Aside0.mk (blk_below BK1.out hb)
  replace O48 := Aside0.mk (Kd.S_below O48.out hb)
  replace BK58 := Aside0.mk (blk_below BK58.out hb)
  replace O64 := Aside0.mk (Kd.S_below O64.out hb)
  replace BK66 := Aside0.mk (blk_below BK66.out hb)
  replace O72 := Aside0.mk (Kd.R_below O72.out hb)
  replace O86 := Aside0.mk (Kd.S_below O86.out hb)
  replace BK96 := Aside0.mk (blk_below BK96.out hb)
  replace O107 := Aside0.mk (Kd.S_below O107.out hb)
  have Z111 := Aside0.mk (below_size hb)
  replace HB := Aside0.mk (below_step HB.out hb)
  clear hb 
  refine hK.out _ _ ⟨(blk_cell BK66.out 0).trans rfl, (blk_cell BK66.out 1).trans rfl, (blk_cell BK66.out 2).trans rfl, (blk_cell BK66.out 3).trans rfl, (blk_cell BK66.out 4).trans rfl, (blk_cell BK66.out 5).trans rfl, (blk_cell BK66.out 6).trans rfl, (blk_cell BK1.out 0).trans rfl, (blk_cell BK1.out 1).trans rfl, (blk_cell BK1.out 2).trans rfl, (blk_cell BK1.out 3).trans rfl, (blk_cell BK1.out 4).trans rfl, (blk_cell BK1.out 5).trans rfl, (blk_cell BK1.out 6).trans rfl⟩ (fun hHeld => ?_)
  clear hK K
  refine norm_ (a' := ?_) ?_ ?_
  rotate_left
  · show Act.put _ (some 55) _ = _
    simp only [Act.put, List.setIfInBounds_toArray, List.set_cons_zero, List.set_cons_succ, i64_w, i32_w]
    rfl
  refine pure_ (i := 4) (N := some 56) (v := ?_) (a' := ?_) #[true, true, true, true, true] rfl rfl (by kernel_rfl) (fun _ _ _ h => h) (Or.inl ⟨by rfl, ?_⟩) ?_ ?_
  rotate_left
  · intro w'
    go_simp
    with_reducible rfl
  rotate_left
  · simp only [Act.put, List.setIfInBounds_toArray, List.set_cons_zero, List.set_cons_succ, i64_w, i32_w]
    rfl
  refine done_ (by kernel_rfl) ?_
  clear hHeld
  clear O107
  go_wp2_with fail
  refine (laws_toByteS.calls k A1 c1 l1 r30 w109 (Kd.C_below HR1.out HB.out) HC1.out e31.out).mono ?_
  rintro e w112 ⟨v0_w112, rfl, h0_w112, hb⟩
  replace BK1 := Aside0.mk (blk_below BK1.out hb)
  replace O48 := Aside0.mk (Kd.S_below O48.out hb)
  replace BK58 := Aside0.mk (blk_below BK58.out hb)
  replace O64 := Aside0.mk (Kd.S_below O64.out hb)
  replace BK66 := Aside0.mk (blk_below BK66.out hb)
  replace O72 := Aside0.mk (Kd.R_below O72.out hb)
  replace O86 := Aside0.mk (Kd.S_below O86.out hb)
  replace BK96 := Aside0.mk (blk_below BK96.out hb)
  obtain ⟨A113, c114, rfl⟩ := Kd.R_slice h0_w112
  have O115 := Aside0.mk (show Kd.R (Kd.int .u8) 5 w112 w.heap.size (Seg w109.heap.size w112.heap.size w112 [5]) (.slice A113 r30.length c114) r30 from Kd.R_lower (Kd.R_mono (Kd.R_bound h0_w112) (fun k_ hk => ⟨hk.2.1, hk.2.2.1, hk.2.2.2⟩)) (below_size HB.out))
  have Z116 := Aside0.mk (below_size hb)
  replace HB := Aside0.mk (below_step HB.out hb)
  clear hb h0_w112
  go_wp2_with fail
  refine (laws_eqByteS.calls k A70 c71 r30 A113 c114 r30 true w112 (Kd.R_reads' O72.out).2.2 (Kd.R_reads' O72.out).2.1 (Kd.R_reads' O115.out).2.2 (Kd.R_reads' O115.out).2.1 e118.out).mono ?_
  rintro e w117 ⟨rfl, hb⟩
  replace hb := Drawn0.below hb
  replace BK1 := Aside0.mk (blk_below BK1.out hb)
  replace O48 := Aside0.mk (Kd.S_below O48.out hb)
  replace BK58 := Aside0.mk (blk_below BK58.out hb)
  replace O64 := Aside0.mk (Kd.S_below O64.out hb)
  replace BK66 := Aside0.mk (blk_below BK66.out hb)
  replace O72 := Aside0.mk (Kd.R_below O72.out hb)
  replace O86 := Aside0.mk (Kd.S_below O86.out hb)
  replace BK96 := Aside0.mk (blk_below BK96.out hb)
  replace O115 := Aside0.mk (Kd.R_below O115.out hb)
  have Z119 := Aside0.mk (below_size hb)
  replace HB := Aside0.mk (below_step HB.out hb)
  clear hb 
  clear O115
  have hz120 : w117.cell? ⟨w61.heap.size, 0, none⟩ = some (.slice A62 r17.length c63) := (blk_cell BK66.out 0).trans rfl
  have hz121 : w117.cell? ⟨w61.heap.size, 1, none⟩ = some (.int .i64 r18) := (blk_cell BK66.out 1).trans rfl
  have hz122 : w117.cell? ⟨w61.heap.size, 2, none⟩ = some (.int .i64 r19) := (blk_cell BK66.out 2).trans rfl
  have hz123 : w117.cell? ⟨w61.heap.size, 3, none⟩ = some (.int .i64 r20) := (blk_cell BK66.out 3).trans rfl
  have hz124 : w117.cell? ⟨w61.heap.size, 4, none⟩ = some (.int .i64 r21) := (blk_cell BK66.out 4).trans rfl
  have hz125 : w117.cell? ⟨w61.heap.size, 5, none⟩ = some (.int .i64 r22) := (blk_cell BK66.out 5).trans rfl
  have hz126 : w117.cell? ⟨w61.heap.size, 6, none⟩ = some (.int .i64 r23) := (blk_cell BK66.out 6).trans rfl
  have hl127 : w61.heap.size < w117.heap.size := blk_lt BK66.out
  go_wp2_with fail
  clear hz120 hz121 hz122 hz123 hz124 hz125 hz126 hl127
  refine (laws_markGap.calls k (Seg (w36.heap.size + 1) w61.heap.size w61 [29, 5]) _ r17 r18 r19 r20 r21 r22 r23 1 m129 x130 w w117 HB.out O64.out e131.out).mono ?_
  rintro e w128 ⟨rfl, h132, hb, hk⟩
  replace BK1 := Aside0.mk (blk_kept BK1.out hk (fun hs => (by have := hs.1; have := hs.2.1; have := Z3.out; have := Z7.out; have := Z28.out; have := Z35.out; have := Z49.out; have := Z60.out; have := Z65.out; have := Z68.out; have := Z73.out; have := Z87.out; have := Z98.out; have := Z101.out; have := Z103.out; have := Z108.out; have := Z111.out; have := Z116.out; have := Z119.out; omega)))
  replace O48 := Aside0.mk (Kd.S_step O48.out (fun k_ hk_ hlt => hk.2 k_ hlt (fun hs => (by have := hs.1; have := hs.2.1; have := hk_.1; have := hk_.2.1; have := Z3.out; have := Z7.out; have := Z28.out; have := Z35.out; have := Z49.out; have := Z60.out; have := Z65.out; have := Z68.out; have := Z73.out; have := Z87.out; have := Z98.out; have := Z101.out; have := Z103.out; have := Z108.out; have := Z111.out; have := Z116.out; have := Z119.out;  omega))))
  replace BK58 := Aside0.mk (blk_kept BK58.out hk (fun hs => (by have := hs.1; have := hs.2.1; have := Z3.out; have := Z7.out; have := Z28.out; have := Z35.out; have := Z49.out; have := Z60.out; have := Z65.out; have := Z68.out; have := Z73.out; have := Z87.out; have := Z98.out; have := Z101.out; have := Z103.out; have := Z108.out; have := Z111.out; have := Z116.out; have := Z119.out; omega)))
  replace BK66 := Aside0.mk (blk_kept BK66.out hk (fun hs => (by have := hs.1; have := hs.2.1; have := Z3.out; have := Z7.out; have := Z28.out; have := Z35.out; have := Z49.out; have := Z60.out; have := Z65.out; have := Z68.out; have := Z73.out; have := Z87.out; have := Z98.out; have := Z101.out; have := Z103.out; have := Z108.out; have := Z111.out; have := Z116.out; have := Z119.out; omega)))
  replace O72 := Aside0.mk (Kd.R_step O72.out (fun k_ hk_ hlt => hk.2 k_ hlt (fun hs => (by have := hs.1; have := hs.2.1; have := hk_.1; have := hk_.2.1; have := Z3.out; have := Z7.out; have := Z28.out; have := Z35.out; have := Z49.out; have := Z60.out; have := Z65.out; have := Z68.out; have := Z73.out; have := Z87.out; have := Z98.out; have := Z101.out; have := Z103.out; have := Z108.out; have := Z111.out; have := Z116.out; have := Z119.out;  omega))))
  replace O86 := Aside0.mk (Kd.S_step O86.out (fun k_ hk_ hlt => hk.2 k_ hlt (fun hs => (by have := hs.1; have := hs.2.1; have := hk_.1; have := hk_.2.1; have := Z3.out; have := Z7.out; have := Z28.out; have := Z35.out; have := Z49.out; have := Z60.out; have := Z65.out; have := Z68.out; have := Z73.out; have := Z87.out; have := Z98.out; have := Z101.out; have := Z103.out; have := Z108.out; have := Z111.out; have := Z116.out; have := Z119.out;  omega))))
  replace BK96 := Aside0.mk (blk_kept BK96.out hk (fun hs => (by have := hs.1; have := hs.2.1; have := Z3.out; have := Z7.out; have := Z28.out; have := Z35.out; have := Z49.out; have := Z60.out; have := Z65.out; have := Z68.out; have := Z73.out; have := Z87.out; have := Z98.out; have := Z101.out; have := Z103.out; have := Z108.out; have := Z111.out; have := Z116.out; have := Z119.out; omega)))
  replace O64 := Aside0.mk h132
  replace HB := Aside0.mk hb
  have Z133 := Aside0.mk hk.1
  clear hb hk h132
  have hn134 := (Kd.S_reads' O64.out).1
  have hn134_ := Aside0.mk hn134
  clear hn134
  clear O64 BK66
  go_wp2_with fail
  refine (laws_markByteS.calls k (Seg (w61.heap.size + 1) w69.heap.size w69 [5]) _ r30 m129 m136 x137 w w128 HB.out O72.out e138.out).mono ?_
  rintro e w135 ⟨rfl, h139, hb, hk⟩
  replace BK1 := Aside0.mk (blk_kept BK1.out hk (fun hs => (by have := hs.1; have := hs.2.1; have := Z3.out; have := Z7.out; have := Z28.out; have := Z35.out; have := Z49.out; have := Z60.out; have := Z65.out; have := Z68.out; have := Z73.out; have := Z87.out; have := Z98.out; have := Z101.out; have := Z103.out; have := Z108.out; have := Z111.out; have := Z116.out; have := Z119.out; have := Z133.out; omega)))
  replace O48 := Aside0.mk (Kd.S_step O48.out (fun k_ hk_ hlt => hk.2 k_ hlt (fun hs => (by have := hs.1; have := hs.2.1; have := hk_.1; have := hk_.2.1; have := Z3.out; have := Z7.out; have := Z28.out; have := Z35.out; have := Z49.out; have := Z60.out; have := Z65.out; have := Z68.out; have := Z73.out; have := Z87.out; have := Z98.out; have := Z101.out; have := Z103.out; have := Z108.out; have := Z111.out; have := Z116.out; have := Z119.out; have := Z133.out;  omega))))
  replace BK58 := Aside0.mk (blk_kept BK58.out hk (fun hs => (by have := hs.1; have := hs.2.1; have := Z3.out; have := Z7.out; have := Z28.out; have := Z35.out; have := Z49.out; have := Z60.out; have := Z65.out; have := Z68.out; have := Z73.out; have := Z87.out; have := Z98.out; have := Z101.out; have := Z103.out; have := Z108.out; have := Z111.out; have := Z116.out; have := Z119.out; have := Z133.out; omega)))
  replace O86 := Aside0.mk (Kd.S_step O86.out (fun k_ hk_ hlt => hk.2 k_ hlt (fun hs => (by have := hs.1; have := hs.2.1; have := hk_.1; have := hk_.2.1; have := Z3.out; have := Z7.out; have := Z28.out; have := Z35.out; have := Z49.out; have := Z60.out; have := Z65.out; have := Z68.out; have := Z73.out; have := Z87.out; have := Z98.out; have := Z101.out; have := Z103.out; have := Z108.out; have := Z111.out; have := Z116.out; have := Z119.out; have := Z133.out;  omega))))
  replace BK96 := Aside0.mk (blk_kept BK96.out hk (fun hs => (by have := hs.1; have := hs.2.1; have := Z3.out; have := Z7.out; have := Z28.out; have := Z35.out; have := Z49.out; have := Z60.out; have := Z65.out; have := Z68.out; have := Z73.out; have := Z87.out; have := Z98.out; have := Z101.out; have := Z103.out; have := Z108.out; have := Z111.out; have := Z116.out; have := Z119.out; have := Z133.out; omega)))
  replace O72 := Aside0.mk (Kd.R_flat (ok' := (Seg (w61.heap.size + 1) w69.heap.size w69 [5])) (fun h => h) h139 (fun k_ hk_ _ => O72.out.1 k_ (by simpa using hk_)))
  replace HB := Aside0.mk hb
  have Z140 := Aside0.mk hk.1
  clear hb hk h139
  have hn141 := (Kd.R_reads' O72.out).1
  have hn141_ := Aside0.mk hn141
  clear hn141
  clear O72
  have hz142 : w135.cell? ⟨w82.heap.size, 0, none⟩ = some (.slice A84 r37.length c85) := (blk_cell BK96.out 0).trans rfl
  have hz143 : w135.cell? ⟨w82.heap.size, 1, none⟩ = some (.int .i64 r38) := (blk_cell BK96.out 1).trans rfl
  have hz144 : w135.cell? ⟨w82.heap.size, 2, none⟩ = some (.int .i64 r39) := (blk_cell BK96.out 2).trans rfl
  have hz145 : w135.cell? ⟨w82.heap.size, 3, none⟩ = some (.int .i64 r40) := (blk_cell BK96.out 3).trans rfl
  have hz146 : w135.cell? ⟨w82.heap.size, 4, none⟩ = some (.int .i64 r41) := (blk_cell BK96.out 4).trans rfl
  have hz147 : w135.cell? ⟨w82.heap.size, 5, none⟩ = some (.int .i64 r42) := (blk_cell BK96.out 5).trans rfl
  have hz148 : w135.cell? ⟨w82.heap.size, 6, none⟩ = some (.int .i64 r43) := (blk_cell BK96.out 6).trans rfl
  have hl149 : w82.heap.size < w135.heap.size := blk_lt BK96.out
  have hz150 : w135.cell? ⟨w36.heap.size, 0, none⟩ = some (.slice A46 r37.length c47) := (blk_cell BK58.out 0).trans rfl
  have hz151 : w135.cell? ⟨w36.heap.size, 1, none⟩ = some (.int .i64 r38) := (blk_cell BK58.out 1).trans rfl
  have hz152 : w135.cell? ⟨w36.heap.size, 2, none⟩ = some (.int .i64 r39) := (blk_cell BK58.out 2).trans rfl
  have hz153 : w135.cell? ⟨w36.heap.size, 3, none⟩ = some (.int .i64 r40) := (blk_cell BK58.out 3).trans rfl
  have hz154 : w135.cell? ⟨w36.heap.size, 4, none⟩ = some (.int .i64 r41) := (blk_cell BK58.out 4).trans rfl
  have hz155 : w135.cell? ⟨w36.heap.size, 5, none⟩ = some (.int .i64 r42) := (blk_cell BK58.out 5).trans rfl
  have hz156 : w135.cell? ⟨w36.heap.size, 6, none⟩ = some (.int .i64 r43) := (blk_cell BK58.out 6).trans rfl
  have hl157 : w36.heap.size < w135.heap.size := blk_lt BK58.out
  go_wp2_with fail
  clear hz142 hz143 hz144 hz145 hz146 hz147 hz148 hl149 hz150 hz151 hz152 hz153 hz154 hz155 hz156 hl157
  have e159 := e100
  refine (laws_eqGap.calls k A84 c85 r37 r38 r39 r40 r41 r42 r43 A46 c47 r37 r38 r39 r40 r41 r42 r43 true w135 (Kd.S_reads' O86.out).2.2 (Kd.S_reads' O86.out).2.1 (Kd.S_reads' O48.out).2.2 (Kd.S_reads' O48.out).2.1 e159.out).mono ?_
  rintro e w158 ⟨rfl, hb⟩
  replace BK1 := Aside0.mk (blk_below BK1.out hb)
  replace O48 := Aside0.mk (Kd.S_below O48.out hb)
  replace BK58 := Aside0.mk (blk_below BK58.out hb)
  replace O86 := Aside0.mk (Kd.S_below O86.out hb)
  replace BK96 := Aside0.mk (blk_below BK96.out hb)
  have Z160 := Aside0.mk (below_size hb)
  replace HB := Aside0.mk (below_step HB.out hb)
  clear hb 
  have hz161 : w158.cell? ⟨w82.heap.size, 0, none⟩ = some (.slice A84 r37.length c85) := (blk_cell BK96.out 0).trans rfl
  have hz162 : w158.cell? ⟨w82.heap.size, 1, none⟩ = some (.int .i64 r38) := (blk_cell BK96.out 1).trans rfl
  have hz163 : w158.cell? ⟨w82.heap.size, 2, none⟩ = some (.int .i64 r39) := (blk_cell BK96.out 2).trans rfl
  have hz164 : w158.cell? ⟨w82.heap.size, 3, none⟩ = some (.int .i64 r40) := (blk_cell BK96.out 3).trans rfl
  have hz165 : w158.cell? ⟨w82.heap.size, 4, none⟩ = some (.int .i64 r41) := (blk_cell BK96.out 4).trans rfl
  have hz166 : w158.cell? ⟨w82.heap.size, 5, none⟩ = some (.int .i64 r42) := (blk_cell BK96.out 5).trans rfl
  have hz167 : w158.cell? ⟨w82.heap.size, 6, none⟩ = some (.int .i64 r43) := (blk_cell BK96.out 6).trans rfl
  have hl168 : w82.heap.size < w158.heap.size := blk_lt BK96.out
  go_wp2_with fail
  clear hz161 hz162 hz163 hz164 hz165 hz166 hz167 hl168
  refine (laws_markGap.calls k (Seg w69.heap.size w82.heap.size w82 [29, 5]) _ r37 r38 r39 r40 r41 r42 r43 1 m170 x171 w w158 HB.out O86.out e172.out).mono ?_
  rintro e w169 ⟨rfl, h173, hb, hk⟩
  replace BK1 := Aside0.mk (blk_kept BK1.out hk (fun hs => (by have := hs.1; have := hs.2.1; have := Z3.out; have := Z7.out; have := Z28.out; have := Z35.out; have := Z49.out; have := Z60.out; have := Z65.out; have := Z68.out; have := Z73.out; have := Z87.out; have := Z98.out; have := Z101.out; have := Z103.out; have := Z108.out; have := Z111.out; have := Z116.out; have := Z119.out; have := Z133.out; have := Z140.out; have := Z160.out; omega)))
  replace O48 := Aside0.mk (Kd.S_step O48.out (fun k_ hk_ hlt => hk.2 k_ hlt (fun hs => (by have := hs.1; have := hs.2.1; have := hk_.1; have := hk_.2.1; have := Z3.out; have := Z7.out; have := Z28.out; have := Z35.out; have := Z49.out; have := Z60.out; have := Z65.out; have := Z68.out; have := Z73.out; have := Z87.out; have := Z98.out; have := Z101.out; have := Z103.out; have := Z108.out; have := Z111.out; have := Z116.out; have := Z119.out; have := Z133.out; have := Z140.out; have := Z160.out;  omega))))
  replace BK58 := Aside0.mk (blk_kept BK58.out hk (fun hs => (by have := hs.1; have := hs.2.1; have := Z3.out; have := Z7.out; have := Z28.out; have := Z35.out; have := Z49.out; have := Z60.out; have := Z65.out; have := Z68.out; have := Z73.out; have := Z87.out; have := Z98.out; have := Z101.out; have := Z103.out; have := Z108.out; have := Z111.out; have := Z116.out; have := Z119.out; have := Z133.out; have := Z140.out; have := Z160.out; omega)))
  replace BK96 := Aside0.mk (blk_kept BK96.out hk (fun hs => (by have := hs.1; have := hs.2.1; have := Z3.out; have := Z7.out; have := Z28.out; have := Z35.out; have := Z49.out; have := Z60.out; have := Z65.out; have := Z68.out; have := Z73.out; have := Z87.out; have := Z98.out; have := Z101.out; have := Z103.out; have := Z108.out; have := Z111.out; have := Z116.out; have := Z119.out; have := Z133.out; have := Z140.out; have := Z160.out; omega)))
  replace O86 := Aside0.mk h173
  replace HB := Aside0.mk hb
  have Z174 := Aside0.mk hk.1
  clear hb hk h173
  have hn175 := (Kd.S_reads' O86.out).1
  have hn175_ := Aside0.mk hn175
  clear hn175
  have hz176 : w169.cell? ⟨w82.heap.size, 0, none⟩ = some (.slice A84 r37.length c85) := (blk_cell BK96.out 0).trans rfl
  have hz177 : w169.cell? ⟨w82.heap.size, 1, none⟩ = some (.int .i64 r38) := (blk_cell BK96.out 1).trans rfl
  have hz178 : w169.cell? ⟨w82.heap.size, 2, none⟩ = some (.int .i64 r39) := (blk_cell BK96.out 2).trans rfl
  have hz179 : w169.cell? ⟨w82.heap.size, 3, none⟩ = some (.int .i64 r40) := (blk_cell BK96.out 3).trans rfl
  have hz180 : w169.cell? ⟨w82.heap.size, 4, none⟩ = some (.int .i64 r41) := (blk_cell BK96.out 4).trans rfl
  have hz181 : w169.cell? ⟨w82.heap.size, 5, none⟩ = some (.int .i64 r42) := (blk_cell BK96.out 5).trans rfl
  have hz182 : w169.cell? ⟨w82.heap.size, 6, none⟩ = some (.int .i64 r43) := (blk_cell BK96.out 6).trans rfl
  have hl183 : w82.heap.size < w169.heap.size := blk_lt BK96.out
  go_wp2_with fail
  clear hz176 hz177 hz178 hz179 hz180 hz181 hz182 hl183
  rw [hn175_.out]
  refine (laws_heldGap.calls k A84 c85 x171 r38 r39 r40 r41 r42 r43 1 m170 w169 (Kd.S_reads' O86.out).2.2 (Nat.le_trans (Nat.le_of_eq hn175_.out.symm) (Kd.S_reads' O86.out).2.1) e185.out).mono ?_
  rintro e w184 ⟨rfl, hb⟩
  replace BK1 := Aside0.mk (blk_below BK1.out hb)
  replace O48 := Aside0.mk (Kd.S_below O48.out hb)
  replace BK58 := Aside0.mk (blk_below BK58.out hb)
  replace O86 := Aside0.mk (Kd.S_below O86.out hb)
  replace BK96 := Aside0.mk (blk_below BK96.out hb)
  have Z186 := Aside0.mk (below_size hb)
  replace HB := Aside0.mk (below_step HB.out hb)
  clear hb 
  try rw [← hn175_.out]
  have hz187 : w184.cell? ⟨w.heap.size, 0, none⟩ = some (.slice A0_0 l0_0.length c0_0) := (blk_cell BK1.out 0).trans rfl
  have hz188 : w184.cell? ⟨w.heap.size, 1, none⟩ = some (.int .i64 a0_1) := (blk_cell BK1.out 1).trans rfl
  have hz189 : w184.cell? ⟨w.heap.size, 2, none⟩ = some (.int .i64 a0_2) := (blk_cell BK1.out 2).trans rfl
  have hz190 : w184.cell? ⟨w.heap.size, 3, none⟩ = some (.int .i64 a0_3) := (blk_cell BK1.out 3).trans rfl
  have hz191 : w184.cell? ⟨w.heap.size, 4, none⟩ = some (.int .i64 a0_4) := (blk_cell BK1.out 4).trans rfl
  have hz192 : w184.cell? ⟨w.heap.size, 5, none⟩ = some (.int .i64 a0_5) := (blk_cell BK1.out 5).trans rfl
  have hz193 : w184.cell? ⟨w.heap.size, 6, none⟩ = some (.int .i64 a0_6) := (blk_cell BK1.out 6).trans rfl
  have hl194 : w.heap.size < w184.heap.size := blk_lt BK1.out
  go_wp2_with fail
  clear hz187 hz188 hz189 hz190 hz191 hz192 hz193 hl194
  refine (laws_toGap.calls k A0_0 c0_0 l0_0 a0_1 a0_2 a0_3 a0_4 a0_5 a0_6 r17 r18 r19 r20 r21 r22 r23 w184 (Kd.C_below HR0_0.out HB.out) HC0_0.out e24.out).mono ?_
  rintro e w195 ⟨v0_w195, rfl, h0_w195, hb⟩
  replace BK1 := Aside0.mk (blk_below BK1.out hb)
  replace O48 := Aside0.mk (Kd.S_below O48.out hb)
  replace BK58 := Aside0.mk (blk_below BK58.out hb)
  replace O86 := Aside0.mk (Kd.S_below O86.out hb)
  replace BK96 := Aside0.mk (blk_below BK96.out hb)
  obtain ⟨A196, c197, rfl⟩ := Kd.S_slice h0_w195
  have O198 := Aside0.mk (show Kd.S (Kd.slice 5 (Kd.int .u8)) 29 w195 w.heap.size (Seg w184.heap.size w195.heap.size w195 [29, 5]) (.slice A196 r17.length c197) r17 from Kd.S_lower (Kd.S_mono (Kd.S_bound h0_w195) (fun k_ hk => ⟨hk.2.1, hk.2.2.1, hk.2.2.2⟩)) (below_size HB.out))
  have Z199 := Aside0.mk (below_size hb)
  replace HB := Aside0.mk (below_step HB.out hb)
  clear hb h0_w195
  clear BK1
  go_wp2_with fail
  refine (laws_toByteS.calls k A1 c1 l1 r30 w195 (Kd.C_below HR1.out HB.out) HC1.out e31.out).mono ?_
  rintro e w200 ⟨v0_w200, rfl, h0_w200, hb⟩
  replace O48 := Aside0.mk (Kd.S_below O48.out hb)
  replace BK58 := Aside0.mk (blk_below BK58.out hb)
  replace O86 := Aside0.mk (Kd.S_below O86.out hb)
  replace BK96 := Aside0.mk (blk_below BK96.out hb)
  replace O198 := Aside0.mk (Kd.S_below O198.out hb)
  obtain ⟨A201, c202, rfl⟩ := Kd.R_slice h0_w200
  have O203 := Aside0.mk (show Kd.R (Kd.int .u8) 5 w200 w.heap.size (Seg w195.heap.size w200.heap.size w200 [5]) (.slice A201 r30.length c202) r30 from Kd.R_lower (Kd.R_mono (Kd.R_bound h0_w200) (fun k_ hk => ⟨hk.2.1, hk.2.2.1, hk.2.2.2⟩)) (below_size HB.out))
  have Z204 := Aside0.mk (below_size hb)
  replace HB := Aside0.mk (below_step HB.out hb)
  clear hb h0_w200
  go_wp2_with fail
  refine (impl_PutBytes.calls k A196 c197 r17 r18 r19 r20 r21 r22 r23 A201 c202 r30 r37 r38 r39 r40 r41 r42 r43 r44 w200 (Kd.S_reads' O198.out).2.2 (Kd.S_reads' O198.out).2.1 (Kd.R_reads' O203.out).2.2 (Kd.R_reads' O203.out).2.1 e83.out).mono ?_
  rintro e w205 ⟨v0_w205, rfl, h0_w205, hb⟩
  replace O48 := Aside0.mk (Kd.S_below O48.out hb)
  replace BK58 := Aside0.mk (blk_below BK58.out hb)
  replace O86 := Aside0.mk (Kd.S_below O86.out hb)
  replace BK96 := Aside0.mk (blk_below BK96.out hb)
  replace O198 := Aside0.mk (Kd.S_below O198.out hb)
  replace O203 := Aside0.mk (Kd.R_below O203.out hb)
  obtain ⟨A206, c207, rfl⟩ := Kd.S_slice h0_w205
  have O208 := Aside0.mk (show Kd.S (Kd.slice 5 (Kd.int .u8)) 29 w205 w.heap.size (Seg w200.heap.size w205.heap.size w205 [29, 5]) (.slice A206 r37.length c207) r37 from Kd.S_lower (Kd.S_mono (Kd.S_bound h0_w205) (fun k_ hk => ⟨hk.2.1, hk.2.2.1, hk.2.2.2⟩)) (below_size HB.out))
  have Z209 := Aside0.mk (below_size hb)
  replace HB := Aside0.mk (below_step HB.out hb)
  clear hb h0_w205
  clear O198 O203
  have hz210 : w205.cell? ⟨w36.heap.size, 0, none⟩ = some (.slice A46 r37.length c47) := (blk_cell BK58.out 0).trans rfl
  have hz211 : w205.cell? ⟨w36.heap.size, 1, none⟩ = some (.int .i64 r38) := (blk_cell BK58.out 1).trans rfl
  have hz212 : w205.cell? ⟨w36.heap.size, 2, none⟩ = some (.int .i64 r39) := (blk_cell BK58.out 2).trans rfl
  have hz213 : w205.cell? ⟨w36.heap.size, 3, none⟩ = some (.int .i64 r40) := (blk_cell BK58.out 3).trans rfl
  have hz214 : w205.cell? ⟨w36.heap.size, 4, none⟩ = some (.int .i64 r41) := (blk_cell BK58.out 4).trans rfl
  have hz215 : w205.cell? ⟨w36.heap.size, 5, none⟩ = some (.int .i64 r42) := (blk_cell BK58.out 5).trans rfl
  have hz216 : w205.cell? ⟨w36.heap.size, 6, none⟩ = some (.int .i64 r43) := (blk_cell BK58.out 6).trans rfl
  have hl217 : w36.heap.size < w205.heap.size := blk_lt BK58.out
  go_wp2_with fail
  clear hz210 hz211 hz212 hz213 hz214 hz215 hz216 hl217
  have HA219 := Below.alloc (Below.refl w205.heap.size w205) (Nat.le_refl _) (.cells #[.slice A206 r37.length c207, .int .i64 r38, .int .i64 r39, .int .i64 r40, .int .i64 r41, .int .i64 r42, .int .i64 r43] 34)
  replace O48 := Aside0.mk (Kd.S_below O48.out HA219)
  replace BK58 := Aside0.mk (blk_below BK58.out HA219)
  replace O86 := Aside0.mk (Kd.S_below O86.out HA219)
  replace BK96 := Aside0.mk (blk_below BK96.out HA219)
  replace O208 := Aside0.mk (Kd.S_below O208.out HA219)
  have BK218 := Aside0.mk (heap_alloc_new w205 (.cells #[.slice A206 r37.length c207, .int .i64 r38, .int .i64 r39, .int .i64 r40, .int .i64 r41, .int .i64 r42, .int .i64 r43] 34))
  replace HB := Aside0.mk (below_step HB.out HA219)
  have Z220 := Aside0.mk (show w205.heap.size < (w205.alloc (.cells #[.slice A206 r37.length c207, .int .i64 r38, .int .i64 r39, .int .i64 r40, .int .i64 r41, .int .i64 r42, .int .i64 r43] 34)).heap.size by simp)
  clear HA219
  have e222 := e100
  refine (laws_eqGap.calls k A206 c207 r37 r38 r39 r40 r41 r42 r43 A46 c47 r37 r38 r39 r40 r41 r42 r43 true (w205.alloc (.cells #[.slice A206 r37.length c207, .int .i64 r38, .int .i64 r39, .int .i64 r40, .int .i64 r41, .int .i64 r42, .int .i64 r43] 34)) (Kd.S_reads' O208.out).2.2 (Kd.S_reads' O208.out).2.1 (Kd.S_reads' O48.out).2.2 (Kd.S_reads' O48.out).2.1 e222.out).mono ?_
  rintro e w221 ⟨rfl, hb⟩
  replace O48 := Aside0.mk (Kd.S_below O48.out hb)
  replace BK58 := Aside0.mk (blk_below BK58.out hb)
  replace O86 := Aside0.mk (Kd.S_below O86.out hb)
  replace BK96 := Aside0.mk (blk_below BK96.out hb)
  replace O208 := Aside0.mk (Kd.S_below O208.out hb)
  replace BK218 := Aside0.mk (blk_below BK218.out hb)
  have Z223 := Aside0.mk (below_size hb)
  replace HB := Aside0.mk (below_step HB.out hb)
  clear hb 
  clear O48 BK58 O208 BK218
  have hz224 : w221.cell? ⟨w82.heap.size, 0, none⟩ = some (.slice A84 r37.length c85) := (blk_cell BK96.out 0).trans rfl
  have hz225 : w221.cell? ⟨w82.heap.size, 1, none⟩ = some (.int .i64 r38) := (blk_cell BK96.out 1).trans rfl
  have hz226 : w221.cell? ⟨w82.heap.size, 2, none⟩ = some (.int .i64 r39) := (blk_cell BK96.out 2).trans rfl
  have hz227 : w221.cell? ⟨w82.heap.size, 3, none⟩ = some (.int .i64 r40) := (blk_cell BK96.out 3).trans rfl
  have hz228 : w221.cell? ⟨w82.heap.size, 4, none⟩ = some (.int .i64 r41) := (blk_cell BK96.out 4).trans rfl
  have hz229 : w221.cell? ⟨w82.heap.size, 5, none⟩ = some (.int .i64 r42) := (blk_cell BK96.out 5).trans rfl
  have hz230 : w221.cell? ⟨w82.heap.size, 6, none⟩ = some (.int .i64 r43) := (blk_cell BK96.out 6).trans rfl
  have hl231 : w82.heap.size < w221.heap.size := blk_lt BK96.out
  go_wp2_with fail
  clear hz224 hz225 hz226 hz227 hz228 hz229 hz230 hl231
  rw [hn175_.out]
  refine (laws_heldGap.calls k A84 c85 x171 r38 r39 r40 r41 r42 r43 1 m170 w221 (Kd.S_reads' O86.out).2.2 (Nat.le_trans (Nat.le_of_eq hn175_.out.symm) (Kd.S_reads' O86.out).2.1) e185.out).mono ?_
  rintro e w232 ⟨rfl, hb⟩
  replace O86 := Aside0.mk (Kd.S_below O86.out hb)
  replace BK96 := Aside0.mk (blk_below BK96.out hb)
  have Z234 := Aside0.mk (below_size hb)
  replace HB := Aside0.mk (below_step HB.out hb)
  clear hb 
  try rw [← hn175_.out]
  clear O86 BK96
  go_wp2_with fail
  go_ret
  exact ⟨rfl, HB.out⟩

set_option maxHeartbeats 8000000 in
set_option maxRecDepth 100000 in
theorem FnExactPutBytes.walk_big0 (k : Nat) (A0_0 : Option Addr) (c0_0 : Nat) (l0_0 : List (List Int)) (a0_1 : Int) (a0_2 : Int) (a0_3 : Int) (a0_4 : Int) (a0_5 : Int) (a0_6 : Int) (A1 : Option Addr) (c1 : Nat) (l1 : List Int) (r5 : Int) (w : World) (HR0_0 : Kd.C (Kd.slice 5 (Kd.int .u8)) w A0_0 l0_0.length l0_0) (HC0_0 : l0_0.length ≤ c0_0) (HR1 : Kd.C (Kd.int .u8) w A1 l1.length l1) (HC1 : l1.length ≤ c1) (g8 : ¬ 1048576 < l1.length) (e6 : laws_szGap.f k l0_0 a0_1 a0_2 a0_3 a0_4 a0_5 a0_6 1048576 = some r5) (n_r5 : r5 < 0) :
    Calls Try.prog 3 #[.agg #[.slice A0_0 l0_0.length c0_0, .int .i64 a0_1, .int .i64 a0_2, .int .i64 a0_3, .int .i64 a0_4, .int .i64 a0_5, .int .i64 a0_6], .slice A1 l1.length c1] w fun e w' => e = .returned (.bool true) ∧ Below w.heap.size w w' := by
  have hu28 := Try.underlying28
  have hu34 := Try.underlying34
  replace HR0_0 := Aside0.mk HR0_0
  replace HC0_0 := Aside0.mk HC0_0
  replace HR1 := Aside0.mk HR1
  replace HC1 := Aside0.mk HC1
  have g8b : decide (1048576 < l1.length) = false := decide_eq_false g8
  have g8c : decide (1048576 < (l1.length : Int)) = false := decide_eq_false (by omega)
  clear g8
  replace e6 := Aside0.mk e6
  replace n_r5 := decide_eq_true n_r5
  have HB := Aside0.mk (Below.refl w.heap.size w)
  go_enter Try.func3, Try.ntmps3
  go_wp2_with fail
  have HA2 := Below.alloc (Below.refl w.heap.size w) (Nat.le_refl _) (.cells #[.slice A0_0 l0_0.length c0_0, .int .i64 a0_1, .int .i64 a0_2, .int .i64 a0_3, .int .i64 a0_4, .int .i64 a0_5, .int .i64 a0_6] 28)
  have BK1 := Aside0.mk (heap_alloc_new w (.cells #[.slice A0_0 l0_0.length c0_0, .int .i64 a0_1, .int .i64 a0_2, .int .i64 a0_3, .int .i64 a0_4, .int .i64 a0_5, .int .i64 a0_6] 28))
  replace HB := Aside0.mk (below_step HB.out HA2)
  have Z3 := Aside0.mk (show w.heap.size < (w.alloc (.cells #[.slice A0_0 l0_0.length c0_0, .int .i64 a0_1, .int .i64 a0_2, .int .i64 a0_3, .int .i64 a0_4, .int .i64 a0_5, .int .i64 a0_6] 28)).heap.size by simp)
  clear HA2
  refine (laws_szGap.calls k A0_0 c0_0 l0_0 a0_1 a0_2 a0_3 a0_4 a0_5 a0_6 1048576 r5 (w.alloc (.cells #[.slice A0_0 l0_0.length c0_0, .int .i64 a0_1, .int .i64 a0_2, .int .i64 a0_3, .int .i64 a0_4, .int .i64 a0_5, .int .i64 a0_6] 28)) (Kd.C_below HR0_0.out HB.out) HC0_0.out e6.out).mono ?_
  rintro e w4 ⟨rfl, hb⟩
  replace BK1 := Aside0.mk (blk_below BK1.out hb)
  have Z7 := Aside0.mk (below_size hb)
  replace HB := Aside0.mk (below_step HB.out hb)
  clear hb 
  go_wp2
  go_ret
  exact ⟨rfl, HB.out⟩

set_option maxHeartbeats 8000000 in
set_option maxRecDepth 100000 in
theorem FnExactPutBytes.walk_bigL (k : Nat) (A0_0 : Option Addr) (c0_0 : Nat) (l0_0 : List (List Int)) (a0_1 : Int) (a0_2 : Int) (a0_3 : Int) (a0_4 : Int) (a0_5 : Int) (a0_6 : Int) (A1 : Option Addr) (c1 : Nat) (l1 : List Int)  (w : World) (HR0_0 : Kd.C (Kd.slice 5 (Kd.int .u8)) w A0_0 l0_0.length l0_0) (HC0_0 : l0_0.length ≤ c0_0) (HR1 : Kd.C (Kd.int .u8) w A1 l1.length l1) (HC1 : l1.length ≤ c1) (g2 : 1048576 < l1.length) :
    Calls Try.prog 3 #[.agg #[.slice A0_0 l0_0.length c0_0, .int .i64 a0_1, .int .i64 a0_2, .int .i64 a0_3, .int .i64 a0_4, .int .i64 a0_5, .int .i64 a0_6], .slice A1 l1.length c1] w fun e w' => e = .returned (.bool true) ∧ Below w.heap.size w w' := by
  have hu28 := Try.underlying28
  have hu34 := Try.underlying34
  replace HR0_0 := Aside0.mk HR0_0
  replace HC0_0 := Aside0.mk HC0_0
  replace HR1 := Aside0.mk HR1
  replace HC1 := Aside0.mk HC1
  have g2b : decide (1048576 < l1.length) = true := decide_eq_true g2
  have g2c : decide (1048576 < (l1.length : Int)) = true := decide_eq_true (by omega)
  clear g2
  have HB := Aside0.mk (Below.refl w.heap.size w)
  go_enter Try.func3, Try.ntmps3
  go_wp2_with fail
  go_wp2
  go_ret
  exact ⟨rfl, by first | exact HB.out | (repeat (first | exact HB.out | apply below_alloc | apply pw_below_drewN | apply below_drew1))⟩

def FnExactPutBytes.Pure : Prop := ∀ (l0_0 : List (List Int)) (a0_1 : Int) (a0_2 : Int) (a0_3 : Int) (a0_4 : Int) (a0_5 : Int) (a0_6 : Int) (l1 : List Int), (l0_0.length ≤ maxLen ∧ ∀ z ∈ l0_0, (z.length ≤ maxLen ∧ ∀ z2 ∈ z, (Lit.int .u8 z2).wf = true)) → (Lit.int .i64 a0_1).wf = true → (Lit.int .i64 a0_2).wf = true → (Lit.int .i64 a0_3).wf = true → (Lit.int .i64 a0_4).wf = true → (Lit.int .i64 a0_5).wf = true → (Lit.int .i64 a0_6).wf = true → (l1.length ≤ maxLen ∧ ∀ z ∈ l1, (Lit.int .u8 z).wf = true) → (∃ (k : Nat) (r5 : Int) (r17 : List (List Int)) (r18 : Int) (r19 : Int) (r20 : Int) (r21 : Int) (r22 : Int) (r23 : Int) (r30 : List Int) (r37 : List (List Int)) (r38 : Int) (r39 : Int) (r40 : Int) (r41 : Int) (r42 : Int) (r43 : Int) (r44 : Bool) (m129 : Int) (x130 : List (List Int)) (m136 : Int) (x137 : List Int) (m170 : Int) (x171 : List (List Int)), ¬ 1048576 < l1.length ∧ laws_szGap.f k l0_0 a0_1 a0_2 a0_3 a0_4 a0_5 a0_6 1048576 = some r5 ∧ ¬ r5 < 0 ∧ laws_toGap.f k l0_0 a0_1 a0_2 a0_3 a0_4 a0_5 a0_6 = some (r17, r18, r19, r20, r21, r22, r23) ∧ laws_toByteS.f k l1 = some r30 ∧ spec_PutBytes.f k r17 r18 r19 r20 r21 r22 r23 r30 = some (r37, r38, r39, r40, r41, r42, r43, r44) ∧ impl_PutBytes.f k r17 r18 r19 r20 r21 r22 r23 r30 = some (r37, r38, r39, r40, r41, r42, r43, r44) ∧ laws_eqGap.f k r37 r38 r39 r40 r41 r42 r43 r37 r38 r39 r40 r41 r42 r43 = some true ∧ laws_eqGap.f k r17 r18 r19 r20 r21 r22 r23 r17 r18 r19 r20 r21 r22 r23 = some true ∧ laws_eqByteS.f k r30 r30 = some true ∧ laws_markGap.f k r17 1 = some (m129, x130) ∧ laws_markByteS.f k r30 m129 = some (m136, x137) ∧ ¬ m136 < 0 ∧ laws_markGap.f k r37 1 = some (m170, x171) ∧ laws_heldGap.f k x171 r38 r39 r40 r41 r42 r43 1 = some m170 ∧ ¬ m170 < 0) ∨
  (∃ (k : Nat) (r5 : Int), ¬ 1048576 < l1.length ∧ laws_szGap.f k l0_0 a0_1 a0_2 a0_3 a0_4 a0_5 a0_6 1048576 = some r5 ∧ r5 < 0) ∨
  (∃ (k : Nat) , 1048576 < l1.length)

theorem FnExactPutBytes.call (P_ : FnExactPutBytes.Pure) (A0_0 : Option Addr) (c0_0 : Nat) (l0_0 : List (List Int)) (a0_1 : Int) (a0_2 : Int) (a0_3 : Int) (a0_4 : Int) (a0_5 : Int) (a0_6 : Int) (A1 : Option Addr) (c1 : Nat) (l1 : List Int) (w : World) (HR0_0 : Kd.C (Kd.slice 5 (Kd.int .u8)) w A0_0 l0_0.length l0_0) (HC0_0 : l0_0.length ≤ c0_0) (HR1 : Kd.C (Kd.int .u8) w A1 l1.length l1) (HC1 : l1.length ≤ c1) (W_0 : (l0_0.length ≤ maxLen ∧ ∀ z ∈ l0_0, (z.length ≤ maxLen ∧ ∀ z2 ∈ z, (Lit.int .u8 z2).wf = true))) (W_1 : (Lit.int .i64 a0_1).wf = true) (W_2 : (Lit.int .i64 a0_2).wf = true) (W_3 : (Lit.int .i64 a0_3).wf = true) (W_4 : (Lit.int .i64 a0_4).wf = true) (W_5 : (Lit.int .i64 a0_5).wf = true) (W_6 : (Lit.int .i64 a0_6).wf = true) (W_7 : (l1.length ≤ maxLen ∧ ∀ z ∈ l1, (Lit.int .u8 z).wf = true)) :
    Calls Try.prog 3 #[.agg #[.slice A0_0 l0_0.length c0_0, .int .i64 a0_1, .int .i64 a0_2, .int .i64 a0_3, .int .i64 a0_4, .int .i64 a0_5, .int .i64 a0_6], .slice A1 l1.length c1] w fun e w' => e = .returned (.bool true) ∧ Below w.heap.size w w' := by
  rcases P_ l0_0 a0_1 a0_2 a0_3 a0_4 a0_5 a0_6 l1 W_0 W_1 W_2 W_3 W_4 W_5 W_6 W_7 with h_ | h_ | h_
  · obtain ⟨k, r5, r17, r18, r19, r20, r21, r22, r23, r30, r37, r38, r39, r40, r41, r42, r43, r44, m129, x130, m136, x137, m170, x171, g235, e6, n_r5, e24, e31, e45, e83, e100, e110, e118, e131, e138, n_m136, e172, e185, n_m170⟩ := h_
    exact FnExactPutBytes.walk k A0_0 c0_0 l0_0 a0_1 a0_2 a0_3 a0_4 a0_5 a0_6 A1 c1 l1 r5 r17 r18 r19 r20 r21 r22 r23 r30 r37 r38 r39 r40 r41 r42 r43 r44 m129 x130 m136 x137 m170 x171 w HR0_0 HC0_0 HR1 HC1 g235 e6 n_r5 e24 e31 e45 e83 e100 e110 e118 e131 e138 n_m136 e172 e185 n_m170
  · obtain ⟨k, r5, g8, e6, n_r5⟩ := h_
    exact FnExactPutBytes.walk_big0 k A0_0 c0_0 l0_0 a0_1 a0_2 a0_3 a0_4 a0_5 a0_6 A1 c1 l1 r5 w HR0_0 HC0_0 HR1 HC1 g8 e6 n_r5
  · obtain ⟨k, g2⟩ := h_
    exact FnExactPutBytes.walk_bigL k A0_0 c0_0 l0_0 a0_1 a0_2 a0_3 a0_4 a0_5 a0_6 A1 c1 l1  w HR0_0 HC0_0 HR1 HC1 g2
end Go.Proofs.Ytmkcbbbknbahgaa.P
namespace Go.Proofs.Ytmkcbbbknbahgaa.P
open Go.RowKit Go.Proofs.YtmkcbbbknbahgaaW.PrintWords Go.Proofs.YtmkcbbbknbahgaaW.PrintLast Go.Proofs.YtmkcbbbknbahgaaW.PrintMore
set_option linter.unusedVariables false

def Small {α : Type} (l : List α) : Prop := l.length ≤ 1048576

theorem Small.le {α : Type} {l : List α} (h : Small l) : l.length ≤ 1048576 := h

theorem szByteS_is {l : List Int} {a : Int} (h0 : 0 ≤ a) (h1 : a ≤ 1048576) (hl : l.length ≤ maxLen) : ∃ r, laws_szByteS.f l a = some r ∧ (r < 0 ∨ (0 ≤ r ∧ r ≤ a ∧ Small l)) := by
  rw [maxLen_] at hl
  unfold laws_szByteS.f Small
  rw [w64 (by omega) (by omega)]
  by_cases h : a - (l.length : Int) < 0
  · rw [if_pos h]; exact ⟨_, rfl, .inl (by omega)⟩
  · rw [if_neg h]; exact ⟨_, rfl, .inr (by omega)⟩

theorem szByteSS_is {l : List (List Int)} {a : Int} (h0 : 0 ≤ a) (h1 : a ≤ 1048576) (hl : l.length ≤ maxLen ∧ ∀ z ∈ l, z.length ≤ maxLen) : ∃ r, Ter (fun k => laws_szByteSS.f k l a) r ∧ (r < 0 ∨ (0 ≤ r ∧ r ≤ a ∧ Small l ∧ ∀ z ∈ l, Small z)) := by
  have hl1 := hl.1
  rw [maxLen_] at hl1
  unfold laws_szByteSS.f
  rw [w64 (by omega) (by omega)]
  by_cases h : a - (l.length : Int) < 0
  · simp only [if_pos h]; exact ⟨_, Ter.ret _, .inl (by omega)⟩
  · simp only [if_neg h]
    have hs : Small l := by unfold Small; omega
    have key := down_ (Q := fun i => ∀ b, 0 ≤ b → b ≤ a → ∃ r, Ter (fun k => laws_szByteSS.l0 k l b (i : Int)) r ∧ (r < 0 ∨ (0 ≤ r ∧ r ≤ b ∧ ∀ j, i ≤ j → ∀ hj : j < l.length, Small l[j]))) l.length
      (fun b hb0 hb1 => ⟨b, Ter.succ (by simp only [laws_szByteSS.l0]; exact Ter.ifn (by omega) (Ter.ret _)), .inr ⟨hb0, Int.le_refl _, fun j h1 h2 => by omega⟩⟩)
      (fun i hi ih b hb0 hb1 => by
        obtain ⟨r, hr, hr2⟩ := szByteS_is (l := l[i]) hb0 (by omega) (hl.2 _ (List.getElem_mem hi))
        rcases hr2 with hr2 | ⟨hr2, hr3, hr4⟩
        · refine ⟨-1, Ter.succ ?_, .inl (by omega)⟩
          simp only [laws_szByteSS.l0]
          refine Ter.ifp (by omega) (Ter.ifp (by omega) ?_)
          rw [show rd_L1 l (i : Int) = l[i] from getD_at hi, hr]
          exact Ter.ifp (c := r < 0) hr2 (Ter.ret _)
        · obtain ⟨q, hq, hq2⟩ := ih r hr2 (by omega)
          refine ⟨q, Ter.succ ?_, ?_⟩
          · simp only [laws_szByteSS.l0]
            refine Ter.ifp (by omega) (Ter.ifp (by omega) ?_)
            rw [show rd_L1 l (i : Int) = l[i] from getD_at hi, hr]
            refine Ter.ifn (c := r < 0) (by omega) ?_
            rw [w64s hi (by omega)]
            exact hq
          · rcases hq2 with h | ⟨h1, h2, h3⟩
            · exact .inl h
            · refine .inr ⟨h1, by omega, fun j hj hj2 => ?_⟩
              by_cases hij : j = i
              · subst hij; exact hr4
              · exact h3 j (by omega) hj2) 0 (by omega) (a - (l.length : Int)) (by omega) (by omega)
    obtain ⟨r, hr, hr2⟩ := key
    refine ⟨r, hr, ?_⟩
    rcases hr2 with h | ⟨h1, h2, h3⟩
    · exact .inl h
    · refine .inr ⟨h1, by omega, hs, fun z hz => ?_⟩
      obtain ⟨j, hj, rfl⟩ := List.getElem_of_mem hz
      exact h3 j (by omega) hj

theorem szMemory_is {l : List (List Int)} {a : Int} (h0 : 0 ≤ a) (h1 : a ≤ 1048576) (hl : l.length ≤ maxLen ∧ ∀ z ∈ l, z.length ≤ maxLen) : ∃ r, Ter (fun k => laws_szMemory.f k l a) r ∧ (r < 0 ∨ (0 ≤ r ∧ r ≤ a ∧ Small l ∧ ∀ z ∈ l, Small z)) := by
  obtain ⟨r, hr, h⟩ := szByteSS_is h0 h1 hl
  unfold laws_szMemory.f
  rcases h with h | ⟨h2, h3, h4⟩
  · exact ⟨-1, hr.bind (Ter.ifp h (Ter.ret _)), .inl (by omega)⟩
  · exact ⟨r, hr.bind (Ter.ifn (by omega) (Ter.ret _)), .inr ⟨h2, h3, h4⟩⟩

theorem toByteS_is {l : List Int} (h : Small l) : Ter (fun k => laws_toByteS.f k l) l := by
  have hl := h.le
  unfold laws_toByteS.f
  refine Ter.ifp (by omega) (Ter.ifp (by omega) ?_)
  have key := down_ (Q := fun i => Ter (fun k => laws_toByteS.l0 k l (l.take i ++ List.replicate (l.length - i) 0) (i : Int)) l) l.length
    (Ter.succ (by simp only [laws_toByteS.l0]; exact Ter.ifn (by omega) ((Ter.ret _).eq fill_all)))
    (fun i hi ih => by
      refine Ter.succ ?_
      simp only [laws_toByteS.l0]
      refine Ter.ifp (by omega) (Ter.ifp (by omega) (Ter.ifp (by rw [fill_len (by omega)]; omega) ?_))
      rw [rd_at hi, w64s hi (by omega), fill_set hi]
      exact ih) 0 (by omega)
  simpa using key

theorem toByteSS_is {l : List (List Int)} (h : Small l) (hz : ∀ z ∈ l, Small z) : Ter (fun k => laws_toByteSS.f k l) l := by
  have hl := h.le
  unfold laws_toByteSS.f
  refine Ter.ifp (by omega) (Ter.ifp (by omega) ?_)
  have key := down_ (Q := fun i => Ter (fun k => laws_toByteSS.l0 k l (l.take i ++ List.replicate (l.length - i) []) (i : Int)) l) l.length
    (Ter.succ (by simp only [laws_toByteSS.l0]; exact Ter.ifn (by omega) ((Ter.ret _).eq fill_all)))
    (fun i hi ih => by
      refine Ter.succ ?_
      simp only [laws_toByteSS.l0]
      refine Ter.ifp (by omega) (Ter.ifp (by omega) ?_)
      rw [show rd_L1 l (i : Int) = l[i] from getD_at hi]
      refine (toByteS_is (hz _ (List.getElem_mem hi))).bind (Ter.ifp (by rw [fill_len (by omega)]; omega) ?_)
      rw [w64s hi (by omega), fill_set hi]
      exact ih) 0 (by omega)
  simpa using key

theorem toMemory_is {l : List (List Int)} (h : Small l) (hz : ∀ z ∈ l, Small z) : Ter (fun k => laws_toMemory.f k l) l := (toByteSS_is h hz).bind (Ter.ret _)

theorem eqByteS_is {l : List Int} (h : l.length ≤ maxLen) : Ter (fun k => laws_eqByteS.f k l l) true := by
  rw [maxLen_] at h
  unfold laws_eqByteS.f
  refine Ter.ifp rfl ?_
  exact down_ (Q := fun i => Ter (fun k => laws_eqByteS.l0 k l l (i : Int)) true) l.length
    (Ter.succ (by simp only [laws_eqByteS.l0]; exact Ter.ifn (by omega) (Ter.ret _)))
    (fun i hi ih => by
      refine Ter.succ ?_
      simp only [laws_eqByteS.l0, if_true]
      refine Ter.ifp (by omega) (Ter.ifp (by omega) (Ter.ifp (by omega) ?_))
      rw [w64s hi (by omega)]
      exact ih) 0 (by omega)

theorem eqByteSS_is {l : List (List Int)} (h : l.length ≤ maxLen ∧ ∀ z ∈ l, z.length ≤ maxLen) : Ter (fun k => laws_eqByteSS.f k l l) true := by
  have h1 := h.1
  rw [maxLen_] at h1
  unfold laws_eqByteSS.f
  refine Ter.ifp rfl ?_
  exact down_ (Q := fun i => Ter (fun k => laws_eqByteSS.l0 k l l (i : Int)) true) l.length
    (Ter.succ (by simp only [laws_eqByteSS.l0]; exact Ter.ifn (by omega) (Ter.ret _)))
    (fun i hi ih => by
      refine Ter.succ ?_
      simp only [laws_eqByteSS.l0]
      refine Ter.ifp (by omega) (Ter.ifp (by omega) (Ter.ifp (by omega) ?_))
      rw [show rd_L1 l (i : Int) = l[i] from getD_at hi]
      refine (eqByteS_is (h.2 _ (List.getElem_mem hi))).bind (Ter.ifp rfl ?_)
      rw [w64s hi (by omega)]
      exact ih) 0 (by omega)

theorem eqMemory_is {l : List (List Int)} (h : l.length ≤ maxLen ∧ ∀ z ∈ l, z.length ≤ maxLen) : Ter (fun k => laws_eqMemory.f k l l) true := (eqByteSS_is h).bind (Ter.ifp rfl (Ter.ret _))

/-- Marks: the numbers written and the number behind them; what is held is told again. -/
theorem markByteS_is {l : List Int} {a : Int} (h0 : 0 ≤ a) (h1 : a + l.length ≤ 9223372036854775807) : ∃ y, y.length = l.length ∧ Ter (fun k => laws_markByteS.f k l a) (a + l.length, y) ∧ Ter (fun k => laws_heldByteS.f k y a) (a + l.length) := by
  unfold laws_markByteS.f laws_heldByteS.f
  have key := down_ (Q := fun i => ∀ y : List Int, y.length = l.length → ∃ y', y'.length = l.length ∧ (∀ j, j < i → y'[j]? = y[j]?) ∧ Ter (fun k => laws_markByteS.l0 k y (a + i) (i : Int)) (a + l.length, y') ∧ Ter (fun k => laws_heldByteS.l0 k y' (a + i) (i : Int)) (a + l.length)) l.length
    (fun y hy => ⟨y, hy, fun _ _ => rfl, Ter.succ (by simp only [laws_markByteS.l0]; exact Ter.ifn (by omega) (Ter.ret _)), Ter.succ (by simp only [laws_heldByteS.l0]; exact Ter.ifn (by omega) (Ter.ret _))⟩)
    (fun i hi ih y hy => by
      obtain ⟨y', hy', hj, hm, hh⟩ := ih (y.set i ((a + i) % 256)) (by simpa using hy)
      have e : (a + (i : Int)) + 1 = a + ((i + 1 : Nat) : Int) := by omega
      refine ⟨y', hy', fun j hji => ?_, Ter.succ ?_, Ter.succ ?_⟩
      · rw [hj j (by omega), List.getElem?_set_ne (by omega)]
      · simp only [laws_markByteS.l0]
        refine Ter.ifp (by omega) (Ter.ifp (by omega) ?_)
        rw [w64s hi (by omega), w64 (by omega) (by omega), e, Int.toNat_natCast]
        exact hm
      · simp only [laws_heldByteS.l0]
        refine Ter.ifp (by omega) (Ter.ifp (by omega) (Ter.ifp ?_ ?_))
        · have := hj i (by omega)
          rw [List.getElem?_set_self (by omega), List.getElem?_eq_getElem (by omega)] at this
          rw [rd_at (by omega)]
          exact Option.some.inj this
        · rw [w64s hi (by omega), w64 (by omega) (by omega), e]
          exact hh) 0 (by omega) l rfl
  obtain ⟨y, hy, _, hm, hh⟩ := key
  exact ⟨y, hy, by simpa using hm, by simpa using hh⟩

def total (l : List (List Int)) : Nat := (l.map List.length).sum

theorem total_le : ∀ {l : List (List Int)}, (∀ z ∈ l, Small z) → total l ≤ l.length * 1048576
  | [], _ => by simp [total]
  | z :: l, h => by
    have := total_le (fun z hz => h z (List.mem_cons_of_mem _ hz))
    have := (h z (List.mem_cons_self ..)).le
    simp only [total, List.map_cons, List.sum_cons, List.length_cons] at *
    omega

theorem markByteSS_is {l : List (List Int)} {a : Int} (h0 : 0 ≤ a) (hl : l.length ≤ 4294967296) (h1 : a + total l ≤ 9223372036854775807) : ∃ y, y.length = l.length ∧ Ter (fun k => laws_markByteSS.f k l a) (a + total l, y) ∧ Ter (fun k => laws_heldByteSS.f k y a) (a + total l) := by
  unfold laws_markByteSS.f laws_heldByteSS.f
  have key := down_ (Q := fun i => ∀ (b : Int) (y : List (List Int)), 0 ≤ b → b + total (l.drop i) ≤ 9223372036854775807 → y.length = l.length → (∀ j, i ≤ j → y[j]? = l[j]?) → ∃ y', y'.length = l.length ∧ (∀ j, j < i → y'[j]? = y[j]?) ∧ Ter (fun k => laws_markByteSS.l0 k y b (i : Int)) (b + total (l.drop i), y') ∧ Ter (fun k => laws_heldByteSS.l0 k y' b (i : Int)) (b + total (l.drop i))) l.length
    (fun b y hb hb2 hy _ => ⟨y, hy, fun _ _ => rfl, Ter.succ (by simp only [laws_markByteSS.l0]; exact Ter.ifn (by omega) ((Ter.ret _).eq (by simp [total]))), Ter.succ (by simp only [laws_heldByteSS.l0]; exact Ter.ifn (by omega) ((Ter.ret _).eq (by simp [total])))⟩)
    (fun i hi ih b y hb hb2 hy hsame => by
      have hd : l.drop i = l[i] :: l.drop (i + 1) := List.drop_eq_getElem_cons hi
      have ht : total (l.drop i) = l[i].length + total (l.drop (i + 1)) := by rw [hd]; rfl
      rw [ht] at hb2 ⊢
      obtain ⟨z, hz, hzm, hzh⟩ := markByteS_is (l := l[i]) hb (by omega)
      obtain ⟨y', hy', hj, hm, hh⟩ := ih (b + l[i].length) (y.set i z) (by omega) (by omega) (by simpa using hy) (fun j hj => by rw [List.getElem?_set_ne (by omega)]; exact hsame j (by omega))
      have e : b + (l[i].length : Int) + (total (l.drop (i + 1)) : Int) = b + ((l[i].length + total (l.drop (i + 1)) : Nat) : Int) := by omega
      rw [e] at hm hh
      have hyi : y[i]'(by omega) = l[i] := by
        have := hsame i (Nat.le_refl _)
        rw [List.getElem?_eq_getElem (by omega), List.getElem?_eq_getElem hi] at this
        exact Option.some.inj this
      refine ⟨y', hy', fun j hji => ?_, Ter.succ ?_, Ter.succ ?_⟩
      · rw [hj j (by omega), List.getElem?_set_ne (by omega)]
      · simp only [laws_markByteSS.l0]
        refine Ter.ifp (by omega) (Ter.ifp (by omega) ?_)
        rw [show rd_L1 y (i : Int) = l[i] from (getD_at (by omega)).trans hyi]
        refine hzm.bind ?_
        rw [w64s hi (by omega), Int.toNat_natCast]
        exact hm
      · simp only [laws_heldByteSS.l0]
        refine Ter.ifp (by omega) (Ter.ifp (by omega) ?_)
        have := hj i (by omega)
        rw [List.getElem?_set_self (by omega), List.getElem?_eq_getElem (by omega)] at this
        rw [show rd_L1 y' (i : Int) = z from (getD_at (by omega)).trans (Option.some.inj this)]
        refine hzh.bind (Ter.ifn (by omega) ?_)
        rw [w64s hi (by omega)]
        exact hh) 0 (by omega) a l h0 (by simpa using h1) rfl (fun _ _ => rfl)
  obtain ⟨y, hy, _, hm, hh⟩ := key
  exact ⟨y, hy, by simpa using hm, by simpa using hh⟩

theorem heldMemory_is {y : List (List Int)} {a r : Int} (h0 : 0 ≤ r) (h : Ter (fun k => laws_heldByteSS.f k y a) r) : Ter (fun k => laws_heldMemory.f k y a) r := h.bind (Ter.ifn (by omega) (Ter.ret _))
end Go.Proofs.Ytmkcbbbknbahgaa.P
namespace Go.Proofs.Ytmkcbbbknbahgaa.P
open Go.RowKit Go.Proofs.YtmkcbbbknbahgaaW.PrintWords Go.Proofs.YtmkcbbbknbahgaaW.PrintLast Go.Proofs.YtmkcbbbknbahgaaW.PrintMore
set_option linter.unusedVariables false

def wf64 (n : Int) : Prop := -9223372036854775808 ≤ n ∧ n ≤ 9223372036854775807

theorem wf64_of {n : Int} (h : (Lit.int .i64 n).wf = true) : wf64 n := by
  simp only [Lit.wf, Bool.and_eq_true, decide_eq_true_eq] at h
  exact h

def wfW (x : S32) : Prop := wf64 x.f0 ∧ wf64 x.f1 ∧ wf64 x.f2 ∧ wf64 x.f3

theorem eqWindow_is (a b c d : Int) : laws_eqWindow.f a b c d a b c d = some true := by simp [laws_eqWindow.f]
end Go.Proofs.Ytmkcbbbknbahgaa.P
namespace Go.Proofs.Ytmkcbbbknbahgaa.P
open Go.RowKit Go.Proofs.YtmkcbbbknbahgaaW.PrintWords Go.Proofs.YtmkcbbbknbahgaaW.PrintLast Go.Proofs.YtmkcbbbknbahgaaW.PrintMore
set_option linter.unusedVariables false

theorem in_is (a b c : Int) : spec_l1In.f a b c = some (decide (b ≤ a ∧ a ≤ c)) := by
  unfold spec_l1In.f
  by_cases h : a ≥ b
  · rw [if_pos h]; congr 1; simp only [decide_eq_decide]; omega
  · rw [if_neg h]; congr 1; symm; simp only [decide_eq_false_iff_not]; omega

theorem within_is (a b c : Int) : impl_within.f a b c = some (decide (b ≤ a ∧ a ≤ c)) := by
  unfold impl_within.f
  by_cases h : a ≥ b
  · rw [if_pos h]; congr 1; simp only [decide_eq_decide]; omega
  · rw [if_neg h]; congr 1; symm; simp only [decide_eq_false_iff_not]; omega

/-- A valid memory. -/
def IsMem (m : List (List Int)) : Prop := m.length ≤ 16 ∧ ∀ z ∈ m, 1 ≤ z.length ∧ z.length ≤ 64

instance (m : List (List Int)) : Decidable (IsMem m) := by unfold IsMem; infer_instance

theorem IsMem.at {m : List (List Int)} (h : IsMem m) {i : Nat} (hi : i < m.length) : 1 ≤ m[i].length ∧ m[i].length ≤ 64 := h.2 _ (List.getElem_mem hi)

theorem l2Memory_is {m : List (List Int)} (h : m.length ≤ maxLen) : Ter (fun k => spec_l2Memory.f k m) (decide (IsMem m)) := by
  rw [maxLen_] at h
  unfold spec_l2Memory.f
  have key := down_ (Q := fun i => (∀ j, j < i → ∀ hj : j < m.length, 1 ≤ m[j].length ∧ m[j].length ≤ 64) → Ter (fun k => spec_l2Memory.l0 k (i : Int) m) (decide (IsMem m))) m.length
    (fun ok => by
      refine Ter.succ ?_
      simp only [spec_l2Memory.l0]
      refine Ter.ifn (by omega) (Ter.succ ?_)
      simp only [spec_l2Memory.j1]
      refine Ter.ifn (by simp) ((Ter.ret _).eq ?_)
      simp only [decide_eq_decide]
      constructor
      · intro h1
        refine ⟨by omega, fun z hz => ?_⟩
        obtain ⟨j, hj, rfl⟩ := List.getElem_of_mem hz
        exact ok j hj hj
      · intro h1; have := h1.1; omega)
    (fun i hi ih ok => by
      refine Ter.succ ?_
      simp only [spec_l2Memory.l0]
      refine Ter.ifp (by omega) (Ter.succ ?_)
      simp only [spec_l2Memory.j1]
      by_cases h16 : (i : Int) ≤ 16
      · refine Ter.ifp (by simpa using h16) (Ter.ifp (by omega) (Ter.ifp (by omega) ?_))
        rw [show rd_L1 m (i : Int) = m[i] from getD_at hi, in_is]
        by_cases hl : 1 ≤ (m[i].length : Int) ∧ (m[i].length : Int) ≤ 64
        · refine Ter.ifp (c := decide _ = true) (by simpa using hl) ?_
          rw [w64s hi (by omega)]
          exact ih (fun j hj hj2 => by
            by_cases hji : j = i
            · subst hji; omega
            · exact ok j (by omega) hj2)
        · refine Ter.ifn (c := decide _ = true) (by simpa using hl) ((Ter.ret _).eq ?_)
          symm
          simp only [decide_eq_false_iff_not]
          intro h1
          have := h1.at hi
          omega
      · refine Ter.ifn (by simpa using h16) ((Ter.ret _).eq ?_)
        simp only [decide_eq_decide]
        constructor
        · intro h1; omega
        · intro h1; have := h1.1; omega) 0 (by omega)
  exact key (fun j hj => by omega)

theorem isMemory_is {m : List (List Int)} (h : m.length ≤ maxLen) : Ter (fun k => impl_IsMemory.f k m) (decide (IsMem m)) := by
  rw [maxLen_] at h
  unfold impl_IsMemory.f
  have key := down_ (Q := fun i => (∀ j, j < i → ∀ hj : j < m.length, 1 ≤ m[j].length ∧ m[j].length ≤ 64) → Ter (fun k => impl_IsMemory.l0 k m (m.length : Int) (i : Int) m) (decide (IsMem m))) m.length
    (fun ok => by
      refine Ter.succ ?_
      simp only [impl_IsMemory.l0]
      refine Ter.ifn (by omega) ((Ter.ret _).eq ?_)
      simp only [decide_eq_decide]
      constructor
      · intro h1
        refine ⟨by omega, fun z hz => ?_⟩
        obtain ⟨j, hj, rfl⟩ := List.getElem_of_mem hz
        exact ok j hj hj
      · intro h1; have := h1.1; omega)
    (fun i hi ih ok => by
      refine Ter.succ ?_
      simp only [impl_IsMemory.l0]
      refine Ter.ifp (by omega) (Ter.ifp (by omega) (Ter.ifp (by omega) ?_))
      rw [show rd_L1 m (i : Int) = m[i] from getD_at hi, within_is]
      by_cases hl : 1 ≤ (m[i].length : Int) ∧ (m[i].length : Int) ≤ 64
      · refine Ter.ifp (c := decide _ = true) (by simpa using hl) ?_
        rw [w64s hi (by omega)]
        exact ih (fun j hj hj2 => by
          by_cases hji : j = i
          · subst hji; omega
          · exact ok j (by omega) hj2)
      · refine Ter.ifn (c := decide _ = true) (by simpa using hl) ((Ter.ret _).eq ?_)
        symm
        simp only [decide_eq_false_iff_not]
        intro h1
        have := h1.at hi
        omega) 0 (by omega)
  exact key (fun j hj => by omega)

/-- A window of the memory. -/
def OnMem (m : List (List Int)) (a s n c : Int) : Prop := 0 ≤ a ∧ a < m.length ∧ 0 ≤ s ∧ s + c ≤ ((m.getD a.toNat []).length : Int) ∧ 0 ≤ n ∧ n ≤ c

instance (m : List (List Int)) (a s n c : Int) : Decidable (OnMem m a s n c) := by unfold OnMem; infer_instance

theorem OnMem.c0 {m : List (List Int)} {a s n c : Int} (h : OnMem m a s n c) : 0 ≤ c := by obtain ⟨_, _, _, _, _, _⟩ := h; omega

theorem l2Window_is {m : List (List Int)} {a s n c : Int} (h : m.length ≤ maxLen) (hz : ∀ z ∈ m, z.length ≤ maxLen) : Ter (fun k => spec_l2Window.f k m a s n c) (decide (IsMem m ∧ OnMem m a s n c)) := by
  have h' := h
  rw [maxLen_] at h'
  unfold spec_l2Window.f
  refine (l2Memory_is h).bind ?_
  by_cases hm : IsMem m
  · refine Ter.ifp (by simpa using hm) ?_
    rw [in_is, w64 (by omega) (by omega)]
    refine Ter.bind (F := fun _ => some _) (Ter.ret _) (Ter.succ ?_)
    simp only [spec_l2Window.j0]
    by_cases ha : 0 ≤ a ∧ a ≤ (m.length : Int) - 1
    · refine Ter.ifn (by simp [ha]) (Ter.ifp (by omega) (Ter.ifp (by omega) ?_))
      obtain ⟨i, rfl⟩ : ∃ i : Nat, a = (i : Int) := ⟨a.toNat, by omega⟩
      have hi : i < m.length := by omega
      rw [show rd_L1 m (i : Int) = m[i] from getD_at hi]
      simp only [in_is, Option.bind_some]
      have hl := hm.at hi
      by_cases h1 : 0 ≤ s ∧ s ≤ (m[i].length : Int)
      · rw [w64 (by omega) (by omega)]
        refine Ter.ifp (by simpa using h1) ?_
        by_cases h2 : 0 ≤ c ∧ c ≤ (m[i].length : Int) - s
        · refine Ter.ifp (by simpa using h2) ((Ter.ret _).eq ?_)
          simp only [decide_eq_decide]
          unfold OnMem
          rw [getD_at hi]
          constructor
          · intro h3; exact ⟨hm, by omega⟩
          · intro h3; obtain ⟨_, h4⟩ := h3; omega
        · refine Ter.ifn (by simpa using h2) ((Ter.ret _).eq ?_)
          symm
          simp only [decide_eq_false_iff_not]
          unfold OnMem
          rw [getD_at hi]
          rintro ⟨_, h4⟩; omega
      · refine Ter.ifn (by simpa using h1) ((Ter.ret _).eq ?_)
        symm
        simp only [decide_eq_false_iff_not]
        unfold OnMem
        rw [getD_at hi]
        rintro ⟨_, h4⟩; omega
    · refine Ter.ifp (by simp only [Bool.not_eq_true', decide_eq_false_iff_not]; omega) ((Ter.ret _).eq ?_)
      symm
      simp only [decide_eq_false_iff_not]
      unfold OnMem
      rintro ⟨_, h4⟩; omega
  · refine Ter.ifn (by simpa using hm) (Ter.succ ?_)
    simp only [spec_l2Window.j0]
    simp only [if_true]
    refine (Ter.ret _).eq ?_
    symm
    simp only [decide_eq_false_iff_not]
    exact fun h1 => hm h1.1

theorem hasWindow_is {m : List (List Int)} {a s n c : Int} (hm : IsMem m) (hs : wf64 s) (hc : wf64 c) : impl_Memory_hasWindow.f m a s n c = some (decide (OnMem m a s n c)) := by
  have hml := hm.1
  unfold impl_Memory_hasWindow.f impl_Memory_hasArray.f
  simp only [within_is, Option.bind_some, decide_eq_true_eq]
  rw [w64 (n := (m.length : Int) - 1) (by omega) (by omega)]
  by_cases ha : 0 ≤ a ∧ a ≤ (m.length : Int) - 1
  · rw [if_pos ha]
    obtain ⟨i, rfl⟩ : ∃ i : Nat, a = (i : Int) := ⟨a.toNat, by omega⟩
    have hi : i < m.length := by omega
    have hl := hm.at hi
    rw [show rd_L1 m (i : Int) = m[i] from getD_at hi]
    by_cases h1 : 0 ≤ c ∧ c ≤ 64
    · rw [if_pos h1]
      by_cases h2 : 0 ≤ n ∧ n ≤ c
      · rw [if_pos h2, if_pos (by omega), if_pos (by omega), w64 (by omega) (by omega)]
        congr 1
        simp only [decide_eq_decide]
        unfold OnMem
        rw [getD_at hi]
        omega
      · rw [if_neg h2]
        congr 1
        symm
        simp only [decide_eq_false_iff_not]
        unfold OnMem
        rw [getD_at hi]
        omega
    · rw [if_neg h1]
      congr 1
      symm
      simp only [decide_eq_false_iff_not]
      unfold OnMem
      rw [getD_at hi]
      omega
  · rw [if_neg ha]
    congr 1
    symm
    simp only [decide_eq_false_iff_not]
    unfold OnMem
    omega

theorem l2Own_is {m : List (List Int)} (h : IsMem m) : Ter (fun k => spec_l2Own.f k m) m := by
  have hml := h.1
  unfold spec_l2Own.f
  have key := down_ (Q := fun i => Ter (fun k => spec_l2Own.l0 k (i : Int) m (m.take i)) m) m.length
    (Ter.succ (by simp only [spec_l2Own.l0]; exact Ter.ifn (by omega) ((Ter.ret _).eq (List.take_length))))
    (fun i hi ih => by
      refine Ter.succ ?_
      simp only [spec_l2Own.l0]
      have hl := h.at hi
      rw [show rd_L1 m (i : Int) = m[i] from getD_at hi]
      refine Ter.ifp (by omega) (Ter.bind (F := fun _ => some _) (Ter.ret _) (Ter.ifp (by omega) (Ter.ifp (by simp; omega) (Ter.ifp (by simp; omega) ?_))))
      rw [w64s hi (by omega), List.nil_append, take_one hi]
      exact ih) 0 (by omega)
  simpa using key

theorem memOwn_is {m : List (List Int)} (h : IsMem m) : Ter (fun k => impl_Memory_own.f k m) m := by
  have hml := h.1
  unfold impl_Memory_own.f
  have key := down_ (Q := fun i => Ter (fun k => impl_Memory_own.l0 k m (m.length : Int) (i : Int) (m.take i)) m) m.length
    (Ter.succ (by simp only [impl_Memory_own.l0]; exact Ter.ifn (by omega) ((Ter.ret _).eq (List.take_length))))
    (fun i hi ih => by
      refine Ter.succ ?_
      simp only [impl_Memory_own.l0]
      have hl := h.at hi
      rw [show rd_L1 m (i : Int) = m[i] from getD_at hi]
      refine Ter.ifp (by omega) (Ter.ifp (by omega) (Ter.ifp (by omega) ?_))
      refine Ter.bind (F := fun _ => slices_Clone_byte.f _) (Ter.const (by unfold slices_Clone_byte.f; rw [if_pos (by omega)])) (Ter.ifp (by simp; omega) ?_)
      rw [w64s hi (by omega), take_one hi]
      exact ih) 0 (by omega)
  simpa using key
end Go.Proofs.Ytmkcbbbknbahgaa.P
namespace Go.Proofs.Ytmkcbbbknbahgaa.P
open Go.RowKit Go.Proofs.YtmkcbbbknbahgaaW.PrintWords Go.Proofs.YtmkcbbbknbahgaaW.PrintLast Go.Proofs.YtmkcbbbknbahgaaW.PrintMore
set_option linter.unusedVariables false

def OnW (m : List (List Int)) (w : S32) : Prop := OnMem m w.f0 w.f1 w.f2 w.f3

instance (m : List (List Int)) (w : S32) : Decidable (OnW m w) := by unfold OnW; infer_instance

def AreOn (m : List (List Int)) (ws : List S32) : Prop := IsMem m ∧ ∀ w ∈ ws, OnW m w

instance (m : List (List Int)) (ws : List S32) : Decidable (AreOn m ws) := by unfold AreOn; infer_instance

theorem areOn_is {m : List (List Int)} {ws : List S32} (h : m.length ≤ maxLen) (hw : ∀ w ∈ ws, wfW w) : Ter (fun k => impl_areOn.f k m ws) (decide (AreOn m ws)) := by
  unfold impl_areOn.f
  refine (isMemory_is h).bind ((Ter.ret _).eq ?_)
  by_cases hm : IsMem m
  · simp only [hm, decide_true, Bool.true_and]
    rw [Bool.eq_iff_iff]
    simp only [List.all_eq_true, decide_eq_true_eq]
    constructor
    · intro h1
      refine ⟨hm, fun w hw1 => ?_⟩
      have := h1 w hw1
      unfold hasW at this
      rw [hasWindow_is hm (hw w hw1).2.1 (hw w hw1).2.2.2] at this
      simpa [OnW] using this
    · intro h1 w hw1
      unfold hasW
      rw [hasWindow_is hm (hw w hw1).2.1 (hw w hw1).2.2.2]
      simpa [OnW] using h1.2 w hw1
  · simp only [hm, decide_false, Bool.false_and]
    symm
    simp only [decide_eq_false_iff_not]
    exact fun h1 => hm h1.1
end Go.Proofs.Ytmkcbbbknbahgaa.P
namespace Go.Proofs.Ytmkcbbbknbahgaa.P
open Go.RowKit Go.Proofs.YtmkcbbbknbahgaaW.PrintWords Go.Proofs.YtmkcbbbknbahgaaW.PrintLast Go.Proofs.YtmkcbbbknbahgaaW.PrintMore
set_option linter.unusedVariables false

def Rising (l : List Int) : Prop := ∀ i, i + 1 < l.length → l.getD i 0 ≤ l.getD (i + 1) 0

instance (l : List Int) : Decidable (Rising l) := decidable_of_iff (∀ i, i < l.length → i + 1 < l.length → l.getD i 0 ≤ l.getD (i + 1) 0) ⟨fun h i hi => h i (by omega) hi, fun h i _ hi => h i hi⟩

def IsArena (m : List (List Int)) (a s n c u : Int) (l : List Int) : Prop := IsMem m ∧ OnMem m a s n c ∧ 0 ≤ u ∧ u ≤ n ∧ l.length ≤ 8 ∧ (∀ x ∈ l, 0 ≤ x ∧ x ≤ u) ∧ Rising l

instance (m : List (List Int)) (a s n c u : Int) (l : List Int) : Decidable (IsArena m a s n c u l) := by unfold IsArena; infer_instance

/-- Bytes written into a window of an own memory. -/
theorem l2Write_is {m : List (List Int)} {ai : Nat} {s n c t : Int} {ys : List Int} (h : IsMem m) (hi : ai < m.length) (h0 : 0 ≤ s) (h1 : 0 ≤ t) (hs : s + t + ys.length ≤ m[ai].length) : Ter (fun k => spec_l2Write.f k m ai s n c t ys) (m.set ai (over_ m[ai] (s + t).toNat ys)) := by
  have hl := h.at hi
  unfold spec_l2Write.f
  refine (l2Own_is h).bind ?_
  have key := down_ (Q := fun i => Ter (fun k => spec_l2Write.l0 k t ys (i : Int) ai s n c (m.set ai (over_ m[ai] (s + t).toNat (ys.take i)))) (m.set ai (over_ m[ai] (s + t).toNat ys))) ys.length
    (Ter.succ (by simp only [spec_l2Write.l0]; exact Ter.ifn (by omega) ((Ter.ret _).eq (by rw [List.take_length]))))
    (fun i hi2 ih => by
      refine Ter.succ ?_
      simp only [spec_l2Write.l0]
      have hlen : (over_ m[ai] (s + t).toNat (ys.take i)).length = m[ai].length := over_length (by simp; omega)
      have e : rd_L1 (m.set ai (over_ m[ai] (s + t).toNat (ys.take i))) (ai : Int) = over_ m[ai] (s + t).toNat (ys.take i) := by
        rw [show rd_L1 (m.set ai (over_ m[ai] (s + t).toNat (ys.take i))) (ai : Int) = (m.set ai (over_ m[ai] (s + t).toNat (ys.take i)))[ai]'(by simpa using hi) from getD_at (by simpa using hi)]
        simp
      rw [e, hlen, rd_at hi2, w64 (n := s + t) (by omega) (by omega), w64 (n := s + t + i) (by omega) (by omega), w64s hi2 (by omega)]
      refine Ter.ifp (by omega) (Ter.ifp (by omega) (Ter.ifp (by simp; omega) (Ter.ifp (by omega) (Ter.ifp (by omega) (Ter.ifp (by omega) ?_)))))
      rw [Int.toNat_natCast, List.set_set]
      have e2 : (over_ m[ai] (s + t).toNat (ys.take i)).set (s + t + i).toNat ys[i] = over_ m[ai] (s + t).toNat (ys.take (i + 1)) := by
        apply List.ext_getElem?
        intro j
        by_cases hj : j = (s + t + i).toNat
        · subst hj
          rw [List.getElem?_set_self (by omega), over_get (by simp; omega), if_pos (by simp; omega), List.getElem?_take_of_lt (by omega), show (s + t + i).toNat - (s + t).toNat = i by omega, List.getElem?_eq_getElem hi2]
        · rw [List.getElem?_set_ne (by omega), over_get (by simp; omega), over_get (by simp; omega)]
          simp only [List.length_take]
          by_cases h5 : (s + t).toNat ≤ j ∧ j < (s + t).toNat + min i ys.length
          · rw [if_pos h5, if_pos (by omega), List.getElem?_take_of_lt (by omega), List.getElem?_take_of_lt (by omega)]
          · rw [if_neg h5, if_neg (by omega)]
      rw [e2]
      exact ih) 0 (by omega)
  rw [List.take_zero, over_nil, List.set_getElem_self] at key
  exact key
end Go.Proofs.Ytmkcbbbknbahgaa.P
namespace Go.Proofs.Ytmkcbbbknbahgaa.P
open Go.RowKit Go.Proofs.YtmkcbbbknbahgaaW.PrintWords Go.Proofs.YtmkcbbbknbahgaaW.PrintLast Go.Proofs.YtmkcbbbknbahgaaW.PrintMore
set_option linter.unusedVariables false

theorem szGap_is {m : List (List Int)} {a s n c f u : Int} (hl : m.length ≤ maxLen ∧ ∀ z ∈ m, z.length ≤ maxLen) {t : Int} (ht0 : 0 ≤ t) (ht : t ≤ 1048576) : ∃ r, Ter (fun k => laws_szGap.f k m a s n c f u t) r ∧ (r < 0 ∨ (0 ≤ r ∧ r ≤ t ∧ Small m ∧ ∀ z ∈ m, Small z)) := by
  unfold laws_szGap.f
  obtain ⟨r, hr, h⟩ := szMemory_is (a := t) (by omega) (by omega) hl
  rcases h with h | ⟨h1, h2, h3, h4⟩
  · exact ⟨-1, hr.bind (Ter.ifp h (Ter.ret _)), .inl (by omega)⟩
  · exact ⟨r, hr.bind (Ter.ifn (by omega) (Ter.ret _)), .inr ⟨h1, h2, h3, h4⟩⟩

theorem toGap_is {m : List (List Int)} {a s n c f u : Int} (h : Small m) (hz : ∀ z ∈ m, Small z) : Ter (fun k => laws_toGap.f k m a s n c f u) (m, a, s, n, c, f, u) := by
  unfold laws_toGap.f
  exact (toMemory_is h hz).bind (Ter.bind (F := fun _ => laws_toWindow.f a s n c) (a := (a, s, n, c)) (Ter.ret _) (Ter.ret _))

theorem eqGap_is {m : List (List Int)} {a s n c f u : Int} (h : Small m) (hz : ∀ z ∈ m, Small z) : Ter (fun k => laws_eqGap.f k m a s n c f u m a s n c f u) true := by
  unfold laws_eqGap.f
  refine (eqMemory_is ⟨by have := h.le; rw [maxLen_]; omega, fun z hz1 => by have := (hz z hz1).le; rw [maxLen_]; omega⟩).bind (Ter.ifp rfl (Ter.bind (F := fun _ => laws_eqWindow.f a s n c a s n c) (Ter.const (eqWindow_is _ _ _ _)) (Ter.ifp rfl ?_)))
  simp only [if_true]
  exact Ter.ret _

theorem markGap_is {m : List (List Int)} {a s n c f u : Int} {b : Int} (h : Small m) (hz : ∀ z ∈ m, Small z) (hb : 0 ≤ b) (hb2 : b ≤ 4611686018427387904) : ∃ x r, x.length = m.length ∧ b ≤ r ∧ r ≤ b + 1099513724928 ∧ Ter (fun k => laws_markGap.f k m b) (r, x) ∧ Ter (fun k => laws_heldGap.f k x a s n c f u b) r := by
  have ht := total_le hz
  have h1 := h.le
  obtain ⟨x, hx, hm1, hm2⟩ := markByteSS_is (l := m) (a := b) (by omega) (by omega) (by omega)
  refine ⟨x, _, hx, by omega, by omega, hm1.bind (Ter.ret _), ?_⟩
  unfold laws_heldGap.f
  exact (heldMemory_is (by omega) hm2).bind (Ter.ifn (by omega) (Ter.ret _))

/-- A valid gap. -/
def IsGapP (m : List (List Int)) (a s n c f t : Int) : Prop := IsMem m ∧ OnMem m a s n c ∧ 0 ≤ t ∧ t ≤ n ∧ 0 ≤ f ∧ f ≤ t

instance (m : List (List Int)) (a s n c f t : Int) : Decidable (IsGapP m a s n c f t) := by unfold IsGapP; infer_instance

theorem l6Gap_is {m : List (List Int)} {a s n c f t : Int} (h : m.length ≤ maxLen) (hz : ∀ z ∈ m, z.length ≤ maxLen) : Ter (fun k => spec_l6Gap.f k m a s n c f t) (decide (IsGapP m a s n c f t)) := by
  unfold spec_l6Gap.f
  refine (l2Window_is h hz).bind ?_
  by_cases h1 : IsMem m ∧ OnMem m a s n c
  · refine Ter.ifp (by simpa using h1) ?_
    simp only [in_is, Option.bind_some]
    by_cases h2 : 0 ≤ t ∧ t ≤ n
    · refine Ter.ifp (by simpa using h2) ((Ter.ret _).eq ?_)
      simp only [decide_eq_decide]
      exact ⟨fun h3 => ⟨h1.1, h1.2, h2.1, h2.2, h3.1, h3.2⟩, fun h3 => ⟨h3.2.2.2.2.1, h3.2.2.2.2.2⟩⟩
    · exact Ter.ifn (by simpa using h2) ((Ter.ret _).eq (decide_eq_false (fun h3 => h2 ⟨h3.2.2.1, h3.2.2.2.1⟩)).symm)
  · exact Ter.ifn (by simpa using h1) ((Ter.ret _).eq (decide_eq_false (fun h3 => h1 ⟨h3.1, h3.2.1⟩)).symm)

theorem isGap_is {m : List (List Int)} {a s n c f t : Int} (h : m.length ≤ maxLen) (hw : wfW ⟨a, s, n, c⟩) : Ter (fun k => impl_IsGap.f k m a s n c f t) (decide (IsGapP m a s n c f t)) := by
  unfold impl_IsGap.f
  refine (areOn_is h (fun w hw1 => by simp only [List.mem_singleton] at hw1; subst hw1; exact hw)).bind ?_
  by_cases h1 : AreOn m [⟨a, s, n, c⟩]
  · refine Ter.ifp (by simpa using h1) ?_
    have h1' : IsMem m ∧ OnMem m a s n c := ⟨h1.1, h1.2 _ (List.mem_singleton.2 rfl)⟩
    simp only [within_is, Option.bind_some]
    by_cases h2 : 0 ≤ t ∧ t ≤ n
    · refine Ter.ifp (by simpa using h2) ((Ter.ret _).eq ?_)
      simp only [decide_eq_decide]
      exact ⟨fun h3 => ⟨h1'.1, h1'.2, h2.1, h2.2, h3.1, h3.2⟩, fun h3 => ⟨h3.2.2.2.2.1, h3.2.2.2.2.2⟩⟩
    · exact Ter.ifn (by simpa using h2) ((Ter.ret _).eq (decide_eq_false (fun h3 => h2 ⟨h3.2.2.1, h3.2.2.2.1⟩)).symm)
  · exact Ter.ifn (by simpa using h1) ((Ter.ret _).eq (decide_eq_false (fun h3 => h1 ⟨h3.1, fun w hw1 => by rw [List.mem_singleton.1 hw1]; exact h3.2.1⟩)).symm)

theorem gapOwn_is {m : List (List Int)} {a s n c f t : Int} (h : IsMem m) : Ter (fun k => impl_Gap_own.f k m a s n c f t) (m, a, s, n, c, f, t) := by
  unfold impl_Gap_own.f
  exact (memOwn_is h).bind (Ter.ret _)

/-- The bytes that a window sees. -/
theorem l2Bytes_is {m : List (List Int)} {ai sn nn : Nat} {c : Int} (hi : ai < m.length) (hs : sn + nn ≤ m[ai].length) (hl : m[ai].length ≤ 64) : Ter (fun k => spec_l2Bytes.f k m ai sn nn c) ((m[ai].drop sn).take nn) := by
  unfold spec_l2Bytes.f
  have hrow : rd_L1 m (ai : Int) = m[ai] := getD_at hi
  have hp : ((m[ai].drop sn).take nn).length = nn := by simp; omega
  have key := down_ (Q := fun i => Ter (fun k => spec_l2Bytes.l0 k (((m[ai].drop sn).take nn).take i) (i : Int) m ai sn nn c) ((m[ai].drop sn).take nn)) nn
    (Ter.succ (by simp only [spec_l2Bytes.l0]; exact Ter.ifn (by omega) ((Ter.ret _).eq (List.take_of_length_le (by omega)))))
    (fun i hi2 ih => by
      refine Ter.succ ?_
      simp only [spec_l2Bytes.l0, spec_l2At.f]
      rw [hrow, show wrap64 ((sn : Int) + (i : Int)) = ((sn + i : Nat) : Int) by unfold wrap64; omega, rd_at (show sn + i < m[ai].length by omega), w64s hi2 (by omega)]
      have e : ((m[ai].drop sn).take nn).take i ++ [m[ai][sn + i]] = ((m[ai].drop sn).take nn).take (i + 1) := by
        rw [List.take_add_one, List.getElem?_eq_getElem (show i < ((m[ai].drop sn).take nn).length by omega)]
        simp
      refine Ter.ifp (by omega) (Ter.bind (F := fun _ => _) (a := m[ai][sn + i]) (Ter.ifp (by omega) (Ter.ifp (by omega) (Ter.ifp (by omega) (Ter.ifp (by omega) (Ter.ret _))))) (Ter.ifp (by simp; omega) ?_))
      rw [e]
      exact ih) 0 (by omega)
  simpa using key

theorem l2New_is {m : List (List Int)} {l : List Int} {n : Int} (h : IsMem m) (hl : l.length ≤ 64) : Ter (fun k => spec_l2New.f k m l n) (m ++ [l], (m.length : Int), 0, n, (l.length : Int)) := by
  unfold spec_l2New.f
  have := h.1
  refine (l2Own_is h).bind ?_
  simp only [Option.bind_some, List.nil_append, List.length_nil]
  exact Ter.ifp (by omega) (Ter.ifp (by omega) (Ter.ret _))

/-- The reference's append, a new array: the bytes, the new ones, and zeros. -/
theorem l2Append_new {m : List (List Int)} {ai sn nn cn : Nat} {l : List Int} (h : IsMem m) (hi : ai < m.length) (hs : sn + cn ≤ m[ai].length) (hn : nn ≤ cn) (h1 : cn < nn + l.length) (h2 : nn + l.length ≤ 64) (hm : m.length < 16) (K : Nat) (hK : (K : Int) = mn 64 (mx (2 * (cn : Int)) ((nn : Int) + (l.length : Int)))) :
    Ter (fun k => spec_l2Append.l0 k ((nn + l.length : Nat) : Int) ((m[ai].drop sn).take nn ++ l) m ai sn nn cn) (m ++ [(m[ai].drop sn).take nn ++ l ++ List.replicate (K - (nn + l.length)) 0], (m.length : Int), 0, ((nn + l.length : Nat) : Int), (K : Int), true) := by
  have hr := h.at hi
  have hp : ((m[ai].drop sn).take nn).length = nn := by simp; omega
  have hK1 : nn + l.length ≤ K ∧ K ≤ 64 := by unfold mn mx at hK; split at hK <;> split at hK <;> omega
  obtain ⟨M1, hM1, hK2⟩ : ∃ M1 : Int, spec_l1Most.f (wrap64 (2 * (cn : Int))) ((nn + l.length : Nat) : Int) = some M1 ∧ spec_l1Least.f M1 64 = some (K : Int) := by
    rw [w64 (n := 2 * (cn : Int)) (by omega) (by omega)]
    unfold spec_l1Most.f spec_l1Least.f
    unfold mn mx at hK
    by_cases c1 : 2 * (cn : Int) > ((nn + l.length : Nat) : Int)
    · refine ⟨_, if_pos c1, ?_⟩
      by_cases c2 : 2 * (cn : Int) < 64
      · rw [if_pos c2]; exact congrArg some (by split at hK <;> first | omega | (split at hK <;> omega))
      · rw [if_neg c2]; exact congrArg some (by split at hK <;> first | omega | (split at hK <;> omega))
    · refine ⟨_, if_neg c1, ?_⟩
      by_cases c2 : ((nn + l.length : Nat) : Int) < 64
      · rw [if_pos c2]; exact congrArg some (by split at hK <;> first | omega | (split at hK <;> omega))
      · rw [if_neg c2]; exact congrArg some (by split at hK <;> first | omega | (split at hK <;> omega))
  have hB : ((m[ai].drop sn).take nn ++ l).length = nn + l.length := by rw [List.length_append, hp]
  generalize (m[ai].drop sn).take nn ++ l = B at hB ⊢
  have key := down_ (Q := fun j => nn + l.length ≤ j → Ter (fun k => spec_l2Append.l0 k ((nn + l.length : Nat) : Int) (B ++ List.replicate (j - (nn + l.length)) 0) m ai sn nn cn) (m ++ [B ++ List.replicate (K - (nn + l.length)) 0], (m.length : Int), 0, ((nn + l.length : Nat) : Int), (K : Int), true)) K
    (fun _ => Ter.succ (by
      simp only [spec_l2Append.l0, hM1, hK2, Option.bind_some]
      have hlen : (B ++ List.replicate (K - (nn + l.length)) 0).length = K := by rw [List.length_append, List.length_replicate, hB]; omega
      refine Ter.ifn (by rw [hlen]; omega) ((l2New_is h (by rw [hlen]; omega)).bind ((Ter.ret _).eq ?_))
      rw [hlen]))
    (fun j hj ih hj2 => Ter.succ (by
      simp only [spec_l2Append.l0, hM1, hK2, Option.bind_some]
      have hlen : (B ++ List.replicate (j - (nn + l.length)) (0 : Int)).length = j := by rw [List.length_append, List.length_replicate, hB]; omega
      refine Ter.ifp (by rw [hlen]; omega) (Ter.ifp (by rw [hlen]; omega) ?_)
      rw [List.append_assoc, ← List.replicate_succ', show j - (nn + l.length) + 1 = j + 1 - (nn + l.length) by omega]
      exact ih (by omega))) (nn + l.length) hK1.1 (Nat.le_refl _)
  simpa using key

theorem over_zeros {part l : List Int} {nn K : Nat} (hp : part.length = nn) (hK : nn + l.length ≤ K) : over_ (over_ (List.replicate K (0 : Int)) 0 part) nn l = part ++ l ++ List.replicate (K - (nn + l.length)) 0 := by
  subst hp
  unfold over_
  simp [List.drop_append, Nat.sub_sub]

/-- What the reference's append answers. -/
def appS (m : List (List Int)) (ix : Nat) (s n c : Int) (l : List Int) : List (List Int) × Int × Int × Int × Int × Bool :=
  if (appP m ix s n c l).2.2.2.2.2 = true then appP m ix s n c l else ([], 0, 0, 0, 0, false)

theorem l2Append_is {m : List (List Int)} {ai sn nn cn : Nat} {l : List Int} (h : IsMem m) (hi : ai < m.length) (hs : sn + cn ≤ m[ai].length) (hn : nn ≤ cn) (hl : l.length ≤ 1048576) : Ter (fun k => spec_l2Append.f k m ai sn nn cn l) (appS m ai sn nn cn l) := by
  have hr := h.at hi
  have hm := h.1
  have hrow : m.getD ai [] = m[ai] := by rw [List.getD_eq_getElem?_getD, List.getElem?_eq_getElem hi]; rfl
  unfold spec_l2Append.f
  simp only [spec_l2Room.f, spec_l2Slice.f, Option.bind_some]
  rw [w64 (n := (cn : Int) - (nn : Int)) (by omega) (by omega)]
  unfold appS appP
  rw [hrow]
  by_cases h1 : (nn : Int) + (l.length : Int) ≤ (cn : Int)
  · rw [if_pos h1, if_pos rfl]
    refine Ter.ifp (by omega) ((l2Write_is (s := sn) (n := nn) (c := cn) (t := nn) h hi (by omega) (by omega) (by omega)).bind ((Ter.ret _).eq ?_))
    rw [w64 (n := (sn : Int) + 0) (by omega) (by omega), w64 (n := (nn : Int) + (l.length : Int)) (by omega) (by omega), w64 (n := (nn : Int) + (l.length : Int) - 0) (by omega) (by omega), w64 (n := (cn : Int) - 0) (by omega) (by omega), Int.add_zero, Int.sub_zero, Int.sub_zero]
  · rw [if_neg h1]
    refine Ter.ifn (by omega) ?_
    rw [w64 (n := 64 - (nn : Int)) (by omega) (by omega)]
    by_cases h2 : 64 < (nn : Int) + (l.length : Int)
    · rw [if_pos (Or.inl h2), if_neg (by simp)]
      refine Ter.ifp (by omega) (Ter.succ ?_)
      simp only [spec_l2Append.j0]
      exact Ter.ifp (by first | rfl | trivial) (Ter.ret _)
    · refine Ter.ifn (by omega) (Ter.succ ?_)
      simp only [spec_l2Append.j0]
      by_cases h3 : m.length = 16
      · rw [if_pos (Or.inr h3), if_neg (by simp)]
        exact Ter.ifp (by simp [h3]) (Ter.ret _)
      · rw [if_neg (show ¬ (64 < (nn : Int) + (l.length : Int) ∨ m.length = 16) by omega), if_pos rfl]
        have hp : ((m[ai].drop sn).take nn).length = nn := by simp; omega
        refine Ter.ifn (by simp; omega) ((l2Bytes_is hi (by omega) hr.2).bind (Ter.ifp (by rw [hp]; omega) ?_))
        rw [w64 (n := (nn : Int) + (l.length : Int)) (by omega) (by omega)]
        obtain ⟨K, hK⟩ : ∃ K : Nat, (K : Int) = mn 64 (mx (2 * (cn : Int)) ((nn : Int) + (l.length : Int))) := ⟨(mn 64 (mx (2 * (cn : Int)) ((nn : Int) + (l.length : Int)))).toNat, by unfold mn mx; split <;> split <;> omega⟩
        have hK1 : nn + l.length ≤ K := by unfold mn mx at hK; split at hK <;> first | omega | (split at hK <;> omega)
        have := l2Append_new h hi hs hn (by omega) (by omega) (by omega) K hK
        rw [← hK, Int.toNat_natCast, Int.toNat_natCast, Int.toNat_natCast, over_zeros hp hK1]
        exact this
end Go.Proofs.Ytmkcbbbknbahgaa.P
namespace Go.Proofs.Ytmkcbbbknbahgaa.P
open Go.RowKit Go.Proofs.YtmkcbbbknbahgaaW.PrintWords Go.Proofs.YtmkcbbbknbahgaaW.PrintLast Go.Proofs.YtmkcbbbknbahgaaW.PrintMore
set_option linter.unusedVariables false

theorem IsMem.put {m : List (List Int)} (h : IsMem m) {i : Nat} (hi : i < m.length) {x : List Int} (hx : x.length = m[i].length) : IsMem (m.set i x) := by
  refine ⟨by rw [List.length_set]; exact h.1, fun z hz => ?_⟩
  rcases List.mem_or_eq_of_mem_set hz with hz | rfl
  · exact h.2 z hz
  · rw [hx]; exact h.at hi

theorem getD_nat {m : List (List Int)} {i : Nat} (hi : i < m.length) : m.getD i [] = m[i] := by rw [List.getD_eq_getElem?_getD, List.getElem?_eq_getElem hi]; rfl

theorem over_keep {xs ys : List Int} {s n : Nat} (h : s + n + ys.length ≤ xs.length) : ((over_ xs (s + n) ys).drop s).take n = (xs.drop s).take n := by
  apply List.ext_getElem?
  intro j
  rw [List.getElem?_take, List.getElem?_take]
  split
  · rw [List.getElem?_drop, List.getElem?_drop, over_get h, if_neg (by omega)]
  · rfl

/-- Where append could be: the memory is valid, and the old bytes are seen still. -/
theorem appP_keep {M : List (List Int)} {a' s' n' c' : Int} {m : List (List Int)} {ix sn nn cn : Nat} {l : List Int} (hP : appP m ix sn nn cn l = (M, a', s', n', c', true)) (h : IsMem m) (hix : ix < m.length) (hs : sn + cn ≤ m[ix].length) (hn : nn ≤ cn) :
    IsMem M ∧ ∀ (jx s2 : Nat) (hj : jx < M.length), a' = jx → s' = s2 → (M[jx].drop s2).take nn = (m[ix].drop sn).take nn := by
  have hr := h.at hix
  unfold appP at hP
  rw [getD_nat hix] at hP
  by_cases h1 : (nn : Int) + (l.length : Int) ≤ (cn : Int)
  · rw [if_pos h1] at hP
    simp only [Prod.mk.injEq] at hP
    obtain ⟨rfl, rfl, rfl, rfl, rfl, _⟩ := hP
    have e : ((sn : Int) + (nn : Int)).toNat = sn + nn := by omega
    rw [e]
    have hov : (over_ m[ix] (sn + nn) l).length = m[ix].length := over_length (by omega)
    refine ⟨h.put hix hov, fun jx s2 hj e1 e2 => ?_⟩
    have e1' : jx = ix := by omega
    have e2' : s2 = sn := by omega
    subst e1' e2'
    rw [List.getElem_set_self]
    exact over_keep (by omega)
  · rw [if_neg h1] at hP
    by_cases h7 : 64 < (nn : Int) + (l.length : Int) ∨ m.length = 16
    · rw [if_pos h7] at hP
      simp at hP
    · rw [if_neg h7] at hP
      simp only [Prod.mk.injEq] at hP
      obtain ⟨rfl, rfl, rfl, rfl, rfl, _⟩ := hP
      have hm := h.1
      obtain ⟨K, hK⟩ : ∃ K : Nat, (K : Int) = mn 64 (mx (2 * (cn : Int)) ((nn : Int) + (l.length : Int))) := ⟨(mn 64 (mx (2 * (cn : Int)) ((nn : Int) + (l.length : Int)))).toNat, by unfold mn mx; split <;> split <;> omega⟩
      have hK1 : nn + l.length ≤ K ∧ K ≤ 64 := by unfold mn mx at hK; split at hK <;> first | omega | (split at hK <;> omega)
      have hp : ((m[ix].drop sn).take nn).length = nn := by simp; omega
      rw [← hK, Int.toNat_natCast, Int.toNat_natCast, Int.toNat_natCast, over_zeros hp hK1.1]
      refine ⟨⟨by simp; omega, fun z hz => ?_⟩, fun jx s2 hj e1 e2 => ?_⟩
      · rcases List.mem_append.1 hz with hz | hz
        · exact h.2 z hz
        · rw [List.mem_singleton.1 hz]
          simp only [List.length_append, List.length_replicate, hp]
          omega
      · have e1' : jx = m.length := by omega
        have e2' : s2 = 0 := by omega
        subst e1' e2'
        rw [List.getElem_append_right (Nat.le_refl _)]
        simp only [Nat.sub_self, List.getElem_cons_zero, List.drop_zero, List.append_assoc]
        rw [List.take_append_of_le_length (by omega), List.take_of_length_le (by omega)]

/-- Widening, as the reference answers. -/
def widS (m : List (List Int)) (ix : Nat) (s n c fr tt N : Int) : List (List Int) × Int × Int × Int × Int × Int × Int × Bool :=
  if (widP m ix s n c fr tt N).2.2.2.2.2.2.2 = true then widP m ix s n c fr tt N else ([], 0, 0, 0, 0, 0, 0, false)

theorem widP_mem {M : List (List Int)} {a' s' n' c' f' t' : Int} {m : List (List Int)} {ix sn nn cn fn tn Nn : Nat} (hP : widP m ix sn nn cn fn tn Nn = (M, a', s', n', c', f', t', true)) (h : IsMem m) (hix : ix < m.length) (hs : sn + cn ≤ m[ix].length) (hn : nn ≤ cn) (ht : tn ≤ nn) : IsMem M := by
  have hr := h.at hix
  unfold widP at hP
  by_cases hN2 : 64 < (Nn : Int)
  · rw [if_pos hN2] at hP
    simp at hP
  · rw [if_neg hN2] at hP
    obtain ⟨⟨M1, a1, s1, n1, c1, b1⟩, hp⟩ : ∃ p, appP m ix sn nn cn (List.replicate ((Nn : Int)).toNat 0) = p := ⟨_, rfl⟩
    rw [hp] at hP
    cases b1 with
    | true =>
      rw [if_pos rfl] at hP
      simp only [Prod.mk.injEq] at hP
      obtain ⟨rfl, rfl, rfl, rfl, rfl, rfl, rfl, _⟩ := hP
      obtain ⟨jx, rfl, hj, hM16, k2, kn, k4, k5, k6, k7⟩ := appP_ok hp (by omega) (by omega) (by omega) hix (by omega) hr.2 hr.1 h.1
      rw [List.length_replicate] at kn
      rw [Int.toNat_natCast, getD_nat hj]
      exact (appP_keep hp h hix hs hn).1.put hj (over_length (by simp; omega))
    | false =>
      rw [if_neg (by simp)] at hP
      simp at hP

theorem l6Widen_is {m : List (List Int)} {ai sn nn cn fn tn Nn : Nat} (h : IsMem m) (hi : ai < m.length) (hs : sn + cn ≤ m[ai].length) (hn : nn ≤ cn) (ht : tn ≤ nn) : Ter (fun k => spec_l6Widen.f k m ai sn nn cn fn tn Nn) (widS m ai sn nn cn fn tn Nn) := by
  have hr := h.at hi
  unfold spec_l6Widen.f widS widP
  by_cases hN2 : 64 < (Nn : Int)
  · rw [if_pos hN2, if_neg (by simp)]
    exact Ter.ifp (by omega) (Ter.ret _)
  · rw [if_neg hN2]
    obtain ⟨⟨M1, a1, s1, n1, c1, b1⟩, hp⟩ : ∃ p, appP m ai sn nn cn (List.replicate ((Nn : Int)).toNat 0) = p := ⟨_, rfl⟩
    have hA := l2Append_is (l := List.replicate ((Nn : Int)).toNat 0) h hi hs hn (by rw [List.length_replicate]; omega)
    unfold appS at hA
    rw [hp] at hA ⊢
    refine Ter.ifn (by omega) (Ter.ifp (by omega) (Ter.ifp (by omega) ?_))
    cases b1 with
    | true =>
      rw [if_pos rfl] at hA ⊢
      rw [if_pos rfl]
      obtain ⟨jx, rfl, hj, hM16, k2, kn, k4, k5, k6, k7⟩ := appP_ok hp (by omega) (by omega) (by omega) hi (by omega) hr.2 hr.1 h.1
      rw [List.length_replicate, Int.toNat_natCast] at kn
      obtain ⟨s2, rfl⟩ : ∃ s2 : Nat, s1 = (s2 : Int) := ⟨s1.toNat, by omega⟩
      obtain ⟨hM, hk⟩ := appP_keep hp h hi hs hn
      have hk' := hk jx s2 hj rfl rfl
      have hpl : ((m[ai].drop sn).take nn).length = nn := by simp; omega
      have hb0 : tn + Nn ≤ 4611686018427387904 := by omega
      have e2 : ((s2 : Int) + ((tn : Int) + (Nn : Int))).toNat = s2 + (tn + Nn) := by omega
      have e3 : ((s2 : Int) + (tn : Int)).toNat = s2 + tn := by omega
      have e4 : ((nn : Int) - (tn : Int)).toNat = nn - tn := by omega
      have e5 : ((s2 : Int) + ((tn + Nn : Nat) : Int)).toNat = s2 + (tn + Nn) := by omega
      refine hA.bind (Ter.ifp rfl ((l2Bytes_is hi (by omega) hr.2).bind (Ter.ifp (by omega) (Ter.ifp (by rw [hpl]; omega) ?_))))
      have hW := l2Write_is (s := s2) (n := n1) (c := c1) (t := ((tn + Nn : Nat) : Int)) (ys := ((m[ai].drop sn).take nn).drop tn) hM hj (by omega) (by omega) (by rw [List.length_drop, hpl]; omega)
      simp only [wrap_add hb0, Int.toNat_natCast]
      refine hW.bind ((Ter.ret _).eq ?_)
      rw [getD_nat hj, e2, e3, e4, e5, ← hk', List.drop_take, List.drop_drop]
      simp
    | false =>
      rw [if_neg (by simp)] at hA ⊢
      exact hA.bind (Ter.ifn (by simp) (Ter.ret _))

theorem l6Put_is {m : List (List Int)} {ai sn nn cn fn tn : Nat} {l : List Int} (h : IsMem m) (hi : ai < m.length) (hs : sn + cn ≤ m[ai].length) (hn : nn ≤ cn) (ht : tn ≤ nn) (hf : fn ≤ tn) (hl : l.length ≤ 1048576) : Ter (fun k => spec_l6Put.f k m ai sn nn cn fn tn l) (putP m ai sn nn cn fn tn l) ∧ IsMem (putP m ai sn nn cn fn tn l).1 := by
  have hr := h.at hi
  have hm := h.1
  unfold spec_l6Put.f putP
  rw [w64 (n := (tn : Int) - (fn : Int)) (by omega) (by omega), w64 (n := (l.length : Int) - ((tn : Int) - (fn : Int))) (by omega) (by omega)]
  have e0 : ((sn : Int) + (fn : Int)).toNat = sn + fn := by omega
  by_cases h1 : (l.length : Int) ≤ (tn : Int) - (fn : Int)
  · rw [if_pos h1, Int.toNat_natCast, getD_nat hi, e0]
    refine ⟨Ter.ifn (by omega) ((l2Write_is (s := sn) (n := nn) (c := cn) (t := fn) (ys := l) h hi (by omega) (by omega) (by omega)).bind ((Ter.ret _).eq ?_)), h.put hi (over_length (by omega))⟩
    rw [w64 (n := (fn : Int) + (l.length : Int)) (by omega) (by omega), e0]
  · rw [if_neg h1]
    obtain ⟨Nn, hNn⟩ : ∃ Nn : Nat, (Nn : Int) = (l.length : Int) - ((tn : Int) - (fn : Int)) := ⟨((l.length : Int) - ((tn : Int) - (fn : Int))).toNat, by omega⟩
    rw [← hNn, Int.toNat_natCast]
    have hW := l6Widen_is (fn := fn) (Nn := Nn) h hi hs hn ht
    unfold widS at hW
    obtain ⟨⟨M, a', s', n', c', f', t', b⟩, hp⟩ : ∃ p, widP m ai sn nn cn fn tn Nn = p := ⟨_, rfl⟩
    rw [hp] at hW ⊢
    cases b with
    | true =>
      rw [if_pos rfl] at hW ⊢
      obtain ⟨jx, rfl, hj, hM16, k2, kn, k4, k5, k6, k7, rfl, rfl⟩ := widP_ok hp (by omega) (by omega) (by omega) hi (by omega) hr.2 hr.1 hm (by omega) (by omega) (by omega)
      obtain ⟨s2, rfl⟩ : ∃ s2 : Nat, s' = (s2 : Int) := ⟨s'.toNat, by omega⟩
      have hM := widP_mem hp h hi hs hn ht
      have e2 : ((s2 : Int) + (fn : Int)).toNat = s2 + fn := by omega
      simp only [Int.toNat_natCast, getD_nat hj, e2]
      refine ⟨Ter.ifp (by omega) (hW.bind (Ter.ifp rfl ((l2Write_is (s := s2) (n := n') (c := c') (t := fn) (ys := l) hM hj (by omega) (by omega) (by omega)).bind ((Ter.ret _).eq ?_)))), hM.put hj (over_length (by omega))⟩
      rw [w64 (n := (fn : Int) + (l.length : Int)) (by omega) (by omega), e2]
    | false =>
      rw [if_neg (by simp)] at hW ⊢
      exact ⟨Ter.ifp (by omega) (hW.bind (Ter.ifn (by simp) (Ter.ret _))), by simp [IsMem]⟩

theorem gap_nats {m : List (List Int)} {a s n c f t : Int} (h : IsGapP m a s n c f t) : ∃ ai sn nn cn fn tn : Nat, a = ai ∧ s = sn ∧ n = nn ∧ c = cn ∧ f = fn ∧ t = tn ∧ IsMem m ∧ ∃ hi : ai < m.length, sn + cn ≤ m[ai].length ∧ nn ≤ cn ∧ tn ≤ nn ∧ fn ≤ tn := by
  obtain ⟨hM, ⟨p1, p2, p3, p4, p5, p6⟩, t1, t2, f1, f2⟩ := h
  obtain ⟨ai, rfl⟩ : ∃ ai : Nat, a = (ai : Int) := ⟨a.toNat, by omega⟩
  have hi : ai < m.length := by omega
  rw [getD_at hi] at p4
  exact ⟨ai, s.toNat, n.toNat, c.toNat, f.toNat, t.toNat, rfl, by omega, by omega, by omega, by omega, by omega, hM, hi, by omega, by omega, by omega, by omega⟩

/-- What PutBytes answers. -/
def putS (m : List (List Int)) (a s n c f t : Int) (l : List Int) : List (List Int) × Int × Int × Int × Int × Int × Int × Bool := if IsGapP m a s n c f t then putP m a s n c f t l else ([], 0, 0, 0, 0, 0, 0, false)

theorem putS_mem {m : List (List Int)} {a s n c f t : Int} {l : List Int} (hl : l.length ≤ 1048576) : IsMem (putS m a s n c f t l).1 := by
  unfold putS
  by_cases hg : IsGapP m a s n c f t
  · rw [if_pos hg]
    obtain ⟨ai, sn, nn, cn, fn, tn, rfl, rfl, rfl, rfl, rfl, rfl, hM, hi, q1, q2, q3, q4⟩ := gap_nats hg
    exact (l6Put_is hM hi q1 q2 q3 q4 hl).2
  · rw [if_neg hg]
    simp [IsMem]

theorem specPutBytes_is {m : List (List Int)} {a s n c f t : Int} {l : List Int} (h : m.length ≤ maxLen) (hz : ∀ z ∈ m, z.length ≤ maxLen) (hl : l.length ≤ 1048576) : Ter (fun k => spec_PutBytes.f k m a s n c f t l) (putS m a s n c f t l) := by
  unfold spec_PutBytes.f putS
  refine (l6Gap_is h hz).bind ?_
  by_cases hg : IsGapP m a s n c f t
  · rw [if_pos hg]
    obtain ⟨ai, sn, nn, cn, fn, tn, rfl, rfl, rfl, rfl, rfl, rfl, hM, hi, q1, q2, q3, q4⟩ := gap_nats hg
    exact Ter.ifp (by simpa using hg) ((l6Put_is hM hi q1 q2 q3 q4 hl).1.bind (Ter.ret _))
  · rw [if_neg hg]
    exact Ter.ifn (by simpa using hg) (Ter.ret _)

theorem implPutBytes_is {m : List (List Int)} {a s n c f t : Int} {l : List Int} (h : m.length ≤ maxLen) (hw : wfW ⟨a, s, n, c⟩) (hl : l.length ≤ 1048576) : Ter (fun k => impl_PutBytes.f k m a s n c f t l) (putS m a s n c f t l) := by
  unfold impl_PutBytes.f putS
  refine (isGap_is h hw).bind ?_
  by_cases hg : IsGapP m a s n c f t
  · rw [if_pos hg]
    refine Ter.ifp (by simpa using hg) ((gapOwn_is hg.1).bind (Ter.ifp ?_ (Ter.ret _)))
    obtain ⟨ai, sn, nn, cn, fn, tn, rfl, rfl, rfl, rfl, rfl, rfl, hM, hi, q1, q2, q3, q4⟩ := gap_nats hg
    have hr := hM.at hi
    have hm := hM.1
    refine ⟨?_, by omega⟩
    show gapOk m ai sn nn cn fn tn
    unfold gapOk
    rw [getD_at hi]
    omega
  · rw [if_neg hg]
    exact Ter.ifn (by simpa using hg) (Ter.ret _)
end Go.Proofs.Ytmkcbbbknbahgaa.P
namespace Go.Proofs.Ytmkcbbbknbahgaa.P
open Go.RowKit Go.Proofs.YtmkcbbbknbahgaaW.PrintWords Go.Proofs.YtmkcbbbknbahgaaW.PrintLast Go.Proofs.YtmkcbbbknbahgaaW.PrintMore
set_option linter.unusedVariables false

theorem FnExactPutBytes.pure : FnExactPutBytes.Pure := by
  intro m a s n c f t l ⟨hm1, hm2⟩ ha hs hn hc hf ht ⟨hl1, hl2⟩
  by_cases hbig : 1048576 < l.length
  · exact .inr (.inr ⟨0, hbig⟩)
  have hls : l.length ≤ 1048576 := by omega
  have hm2' : ∀ z ∈ m, z.length ≤ maxLen := fun z hz => (hm2 z hz).1
  obtain ⟨r, hr, h⟩ := szGap_is (a := a) (s := s) (n := n) (c := c) (f := f) (u := t) ⟨hm1, hm2'⟩ (t := 1048576) (by omega) (by omega)
  rcases h with h | ⟨h, h', hs1, hs2⟩
  · obtain ⟨K, hK⟩ := hr
    exact .inr (.inl ⟨K, r, hbig, hK K (Nat.le_refl _), h⟩)
  · have hw : wfW ⟨a, s, n, c⟩ := ⟨wf64_of ha, wf64_of hs, wf64_of hn, wf64_of hc⟩
    have hto := toGap_is (a := a) (s := s) (n := n) (c := c) (f := f) (u := t) hs1 hs2
    have hto2 := toByteS_is (l := l) hls
    have spec := specPutBytes_is (a := a) (s := s) (n := n) (c := c) (f := f) (t := t) hm1 hm2' hls
    have impl := implPutBytes_is (a := a) (s := s) (n := n) (c := c) (f := f) (t := t) hm1 hw hls
    have hM := putS_mem (m := m) (a := a) (s := s) (n := n) (c := c) (f := f) (t := t) hls
    generalize putS m a s n c f t l = p at spec impl hM
    obtain ⟨m1, a1, s1, n1, c1, f1, t1, b1⟩ := p
    have hm1' : Small m1 := by have h_ : m1.length ≤ 16 := hM.1; show m1.length ≤ 1048576; omega
    have hmz : ∀ z ∈ m1, Small z := fun z hz => by have := (hM.2 z hz).2; show z.length ≤ 1048576; omega
    have eq1 := eqGap_is (a := a1) (s := s1) (n := n1) (c := c1) (f := f1) (u := t1) hm1' hmz
    have eq3 := eqGap_is (a := a) (s := s) (n := n) (c := c) (f := f) (u := t) hs1 hs2
    have eq4 := eqByteS_is (l := l) hl1
    obtain ⟨x2, r3, _, hr3, hr3', hk2, _⟩ := markGap_is (a := a) (s := s) (n := n) (c := c) (f := f) (u := t) (b := 1) hs1 hs2 (by omega) (by omega)
    obtain ⟨y2, _, hk3, _⟩ := markByteS_is (l := l) (a := r3) (by omega) (by omega)
    obtain ⟨x4, r4, _, hr4, hr4', hk4, hh4⟩ := markGap_is (a := a1) (s := s1) (n := n1) (c := c1) (f := f1) (u := t1) (b := 1) hm1' hmz (by omega) (by omega)
    obtain ⟨K0, hr⟩ := hr; obtain ⟨K1, hto⟩ := hto; obtain ⟨K2, hto2⟩ := hto2; obtain ⟨K3, spec⟩ := spec; obtain ⟨K4, impl⟩ := impl; obtain ⟨K5, eq1⟩ := eq1; obtain ⟨K7, eq3⟩ := eq3; obtain ⟨K8, eq4⟩ := eq4
    obtain ⟨K9, hk2⟩ := hk2; obtain ⟨K10, hk3⟩ := hk3; obtain ⟨K11, hk4⟩ := hk4; obtain ⟨K13, hh4⟩ := hh4
    exact .inl ⟨K0 + K1 + K2 + K3 + K4 + K5 + K7 + K8 + K9 + K10 + K11 + K13, r, m, a, s, n, c, f, t, l, m1, a1, s1, n1, c1, f1, t1, b1, r3, x2, _, y2, r4, x4, hbig, hr _ (by omega), by omega, hto _ (by omega), hto2 _ (by omega), spec _ (by omega), impl _ (by omega), eq1 _ (by omega), eq3 _ (by omega), eq4 _ (by omega), hk2 _ (by omega), hk3 _ (by omega), by omega, hk4 _ (by omega), hh4 _ (by omega), by omega⟩
end Go.Proofs.Ytmkcbbbknbahgaa.P
namespace Go.Proofs.Ytmkcbbbknbahgaa.fnExactPutBytes
open Go.ChangeShapes Go.WideShapes Go.ChangeAt Go.RowKit
open Go.ChangeMaps (open_string shut_string)
open Go.Proofs.Ytmkcbbbknbahgaa.P Go.Proofs.YtmkcbbbknbahgaaW.PrintWords Go.Proofs.YtmkcbbbknbahgaaW.PrintLast Go.Proofs.YtmkcbbbknbahgaaW.PrintMore
set_option linter.unusedVariables false

theorem own : ownKnob Try.prog.godebug = none := by kernel_rfl

theorem laidOut : laidOutB Try.prog = true := by kernel_rfl

set_option maxRecDepth 100000 in
set_option maxHeartbeats 2000000 in
theorem lifted (os : Os) (started : os.Started) (H : Type) (enc : TypeId × Value → H) :
    ReturnsInHanded {} Try.checked os 3 .any (Rows.fnExactPutBytesSpec.pre6 enc Try.prog Try.f3 Rows.fnExactPutBytesRow.domain false) (Rows.fnExactPutBytesSpec.post enc Try.prog Try.f3 false true false false) := by
  refine returnsInHanded_of_change_sized (C := Try.checked) own started (by kernel_rfl) Try.func3
    (ChangeSpec.witness6 (enc := enc) (C := Try.checked) false ⟨#[], #[.agg #[.slice none 0 0, .int .i64 0, .int .i64 0, .int .i64 0, .int .i64 0, .int .i64 0, .int .i64 0], .slice none 0 0], []⟩ 8 (by kernel_rfl) (by kernel_rfl) (by kernel_rfl) (by kernel_rfl)) ?_
  intro W base args ds gs before hval0 hW hcnd hsz0 _
  have hsz : (DataW.weightsEach Try.prog (Try.f3.params.toList ++ Rows.fnExactPutBytesSpec.plain.varTypes Try.prog) (ds ++ gs)).all (· ≤ reachBytes) = true := hsz0
  have hval : ∀ (j : Nat) t v, Try.f3.params[j]? = some t → args[j]? = some v → Value.okWide Try.prog W .any base t v := hval0
  have hW' := hW
  obtain ⟨p, q, hA0, hV, rfl, hfz, hnd⟩ := hW
  have hA : DataW.TrodAll enc Try.prog W 0 (fun _ => true) true Try.f3.params.toList args.toList ds p := hA0
  rw [Try.params3] at hA hval hsz
  obtain ⟨v0, vs0, d0, ds0, p0, q0, hargs, rfl, rfl, h0, r0⟩ := trodAll_cons hA
  obtain ⟨v1, vs1, d1, ds1, p1, q1, rfl, rfl, rfl, h1, r1⟩ := trodAll_cons r0
  obtain ⟨rfl, rfl, rfl⟩ := trodAll_nil r1
  obtain rfl : args = #[v0, v1] := by cases args; simp_all
  obtain ⟨rfl, rfl⟩ := trodVars_none hV
  obtain ⟨cs0, rfl, _⟩ := okWide_struct Try.underlying28 (hval 0 28 v0 rfl rfl)
  have k0 := h0
  have lt0 : ∀ x ∈ p0, x.block < W.heap.size := by obtain ⟨m, hm⟩ := k0; exact DataW.trod_lt m _ _ _ hm
  obtain ⟨A0_0, c0_0, l0_0, a0_1, a0_2, a0_3, a0_4, a0_5, a0_6, e0, HR0_0, HC0_0, W0_0, W0_1, W0_2, W0_3, W0_4, W0_5, W0_6, _⟩ : ∃ (A0_0 : Option Addr) (c0_0 : Nat) (l0_0 : List (List Int)) (a0_1 : Int) (a0_2 : Int) (a0_3 : Int) (a0_4 : Int) (a0_5 : Int) (a0_6 : Int), cs0 = #[.slice A0_0 l0_0.length c0_0, .int .i64 a0_1, .int .i64 a0_2, .int .i64 a0_3, .int .i64 a0_4, .int .i64 a0_5, .int .i64 a0_6] ∧ Kd.C (Kd.slice 5 (Kd.int .u8)) W A0_0 l0_0.length l0_0 ∧ l0_0.length ≤ c0_0 ∧ (l0_0.length ≤ maxLen ∧ ∀ z ∈ l0_0, (z.length ≤ maxLen ∧ ∀ z2 ∈ z, (Lit.int .u8 z2).wf = true)) ∧ (Lit.int .i64 a0_1).wf = true ∧ (Lit.int .i64 a0_2).wf = true ∧ (Lit.int .i64 a0_3).wf = true ∧ (Lit.int .i64 a0_4).wf = true ∧ (Lit.int .i64 a0_5).wf = true ∧ (Lit.int .i64 a0_6).wf = true ∧ True := by
    obtain ⟨fuel, hf⟩ := h0
    obtain ⟨A0_0, c0_0, l0_0, a0_1, a0_2, a0_3, a0_4, a0_5, a0_6, e_, r_⟩ := P.cells_28 hf
    refine ⟨A0_0, c0_0, l0_0, a0_1, a0_2, a0_3, a0_4, a0_5, a0_6, ?_, r_⟩
    exact Array.toList_inj.1 e_
  subst e0
  obtain ⟨A1, len1, c1, rfl⟩ := okWide_slice Try.underlying29 (hval 1 29 v1 rfl rfl)
  have k1 := h1
  have lt1 : ∀ x ∈ p1, x.block < W.heap.size := by obtain ⟨m, hm⟩ := k1; exact DataW.trod_lt m _ _ _ hm
  obtain ⟨l1, e1, HC1, HR1, W1⟩ : ∃ l : List Int, len1 = l.length ∧ l.length ≤ c1 ∧ Kd.C (Kd.int .u8) W A1 l.length l ∧ (l.length ≤ maxLen ∧ ∀ z ∈ l, (Lit.int .u8 z).wf = true) := by
    obtain ⟨fuel, hf⟩ := h1
    obtain ⟨l, ⟨A_, c_, e_, hc_, hr_⟩, w_⟩ := (P.opens_slice (P := Try.prog) Try.underlying29 (P.opens_int (P := Try.prog) Try.underlying5) (by kernel_rfl)) hf rfl
    obtain ⟨rfl, rfl, rfl⟩ := Value.slice.inj (List.cons.inj e_).1
    exact ⟨l, rfl, hc_, hr_, w_⟩
  subst e1
  clear hA0 hval0 hsz0 hsz
  refine (P.FnExactPutBytes.call P.FnExactPutBytes.pure A0_0 c0_0 l0_0 a0_1 a0_2 a0_3 a0_4 a0_5 a0_6 A1 c1 l1 W HR0_0 HC0_0 HR1 HC1 W0_0 W0_1 W0_2 W0_3 W0_4 W0_5 W0_6 W1).mono fun e W' ⟨he, bel⟩ => ?_
  subst he
  exact ⟨_, rfl, _, _, _, [], _, [], hW', trodAll_mk1 (shut_bool Try.underlying4 _), (trodAll_cons_mk (Below.trod laidOut (by kernel_rfl) (of_decide_eq_true (by kernel_rfl)) k0 bel lt0) (trodAll_cons_mk (Below.trod laidOut (by kernel_rfl) (of_decide_eq_true (by kernel_rfl)) k1 bel lt1) trodAll_mk0)), rfl, bel.frame _, fun h => by cases h⟩

theorem cl1 : Try.pinned.checked.prog.funcNamed Rows.fnExactPutBytesRow.func = some 3 := by kernel_rfl

theorem cl2 : joinedFacts Try.pinned.checked.prog 3 Try.f3 Rows.fnExactPutBytesSpec Rows.fnExactPutBytesRow = true := by kernel_rfl

theorem cl3 : Try.f3.isInstance Try.pinned.checked.prog Rows.fnExactPutBytesRow.origin Rows.fnExactPutBytesRow.targs := of_decide_eq_true (by kernel_rfl)

theorem cl4 : Try.f3.isWrapper Try.pinned.checked.prog Rows.fnExactPutBytesRow.wrapper Rows.fnExactPutBytesRow.mainSum := (by unfold Func.isWrapper; first | (rw [if_pos (by decide +kernel)]; kernel_rfl) | (rw [if_neg (by decide +kernel)]; exact ⟨rfl, rfl⟩))

theorem over : Rows.fnExactPutBytesRow.holds Try.pinned (OpenSpec.ofChange Rows.fnExactPutBytesSpec) :=
  OpenClaim.holds_of_wide 3 Try.f3 rfl rfl rfl rfl rfl rfl rfl ⟨rfl, rfl, rfl, rfl, rfl⟩ rfl rfl rfl rfl rfl cl1 Try.func3 cl2 cl3 cl4
    (fun os started H enc _ => lifted os started H enc)

theorem proved : Rows.FnExactPutBytesSaid := over
#print axioms proved
end Go.Proofs.Ytmkcbbbknbahgaa.fnExactPutBytes
namespace Go.Proofs.Ytmkcbbbknbahgaa

/-- The row, under a short name, for the claim. -/
theorem fnExactPutBytes_holds : Rows.FnExactPutBytesSaid := fnExactPutBytes.proved
end Go.Proofs.Ytmkcbbbknbahgaa
