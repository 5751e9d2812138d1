/- Part 3 of the proof of FnExactGiveZero: contracts of functions that the law reaches. Conditions: none. -/
import Derived.Test.YtmkcbbbknbahgaaCFnExactGiveZero2
namespace Go.Proofs.Ytmkcbbbknbahgaa.P
open Go.RowKit Go.Proofs.YtmkcbbbknbahgaaW.PrintWords Go.Proofs.YtmkcbbbknbahgaaW.PrintLast Go.Proofs.YtmkcbbbknbahgaaW.PrintMore
attribute [local go_sem] max2_int min2_int max_two min_two max_three min_three max_four min_four   -- for this text's walks alone
set_option linter.unusedVariables false
set_option linter.unusedSimpArgs false

def spec_GiveZero.f (k : Nat) (l0_0 : List (List Int)) (a0_1 : Int) (a0_2 : Int) (a0_3 : Int) (a0_4 : Int) (a0_5 : Int) (l0_6 : List Int) (a1_0 : Int) (a1_1 : Int) : Option ((List (List Int)) × Int × Int × Int × Int × Int × List Int × Int × Int × Int × Int × Bool) := (spec_Give.f k l0_0 a0_1 a0_2 a0_3 a0_4 a0_5 l0_6 a1_0 a1_1).bind fun bt922 => (if bt922.2.2.2.2.2.2.2.2.2.2.2 = true then (if 0 ≤ bt922.2.2.2.2.2.2.2.2.2.1 then (if (bt922.2.2.2.2.2.2.2.2.2.1 : Int).toNat ≤ 281474976710656 then ((spec_l2Write.f k bt922.1 bt922.2.2.2.2.2.2.2.1 bt922.2.2.2.2.2.2.2.2.1 bt922.2.2.2.2.2.2.2.2.2.1 bt922.2.2.2.2.2.2.2.2.2.2.1 0 (List.replicate (bt922.2.2.2.2.2.2.2.2.2.1 : Int).toNat 0)).bind fun t943 => (some (t943, bt922.2.1, bt922.2.2.1, bt922.2.2.2.1, bt922.2.2.2.2.1, bt922.2.2.2.2.2.1, bt922.2.2.2.2.2.2.1, bt922.2.2.2.2.2.2.2.1, bt922.2.2.2.2.2.2.2.2.1, bt922.2.2.2.2.2.2.2.2.2.1, bt922.2.2.2.2.2.2.2.2.2.2.1, true))) else (none)) else (none)) else (some (([] : List (List Int)), 0, 0, 0, 0, 0, ([] : List Int), 0, 0, 0, 0, false)))

def spec_GiveZero.T4 : Bool × List (List Nat × List Nat) := (true, [([], []), ([0], [0]), ([], []), ([], []), ([3], [3]), ([4, 4], [4]), ([1, 2, 5], [1, 2, 5]), ([0, 1, 2, 3, 4, 5, 6], []), ([7, 6, 6, 0, 1, 2, 3, 4, 5, 6], [6, 7])])

def spec_GiveZero.B4 : List Nat := [0, 1, 0, 0, 8, 24, 63, 127, 255]

theorem spec_GiveZero.tab4 : rtab .any (opsOf Try.f44 4) = spec_GiveZero.T4 := by kernel_rfl

theorem spec_GiveZero.bits4 : waitsOk spec_GiveZero.T4.2 spec_GiveZero.B4 = true := by kernel_rfl

set_option maxHeartbeats 8000000 in
set_option maxRecDepth 100000 in
theorem spec_GiveZero.calls (k : Nat) (A0_0 : Option Addr) (c0_0 : Nat) (l0_0 : List (List Int)) (a0_1 : Int) (a0_2 : Int) (a0_3 : Int) (a0_4 : Int) (a0_5 : Int) (A0_6 : Option Addr) (c0_6 : Nat) (l0_6 : List Int) (a1_0 : Int) (a1_1 : Int) (r1 : List (List Int)) (r2 : Int) (r3 : Int) (r4 : Int) (r5 : Int) (r6 : Int) (r7 : List Int) (r8 : Int) (r9 : Int) (r10 : Int) (r11 : Int) (r12 : Bool) (w : World) (hr0_0 : Kd.C (Kd.slice 5 (Kd.int .u8)) w A0_0 l0_0.length l0_0) (hc0_0 : l0_0.length ≤ c0_0) (hr0_6 : Kd.C (Kd.int .i64) w A0_6 l0_6.length l0_6) (hc0_6 : l0_6.length ≤ c0_6) (h : spec_GiveZero.f k l0_0 a0_1 a0_2 a0_3 a0_4 a0_5 l0_6 a1_0 a1_1 = some (r1, r2, r3, r4, r5, r6, r7, r8, r9, r10, r11, r12)) :
  Calls Try.prog 44 #[.agg #[.slice A0_0 l0_0.length c0_0, .int .i64 a0_1, .int .i64 a0_2, .int .i64 a0_3, .int .i64 a0_4, .int .i64 a0_5, .slice A0_6 l0_6.length c0_6], .agg #[.int .i64 a1_0, .int .i64 a1_1]] w fun e w' => ∃ v0_ v6_ : Value, e = .returned (.tuple #[.agg #[v0_, .int .i64 r2, .int .i64 r3, .int .i64 r4, .int .i64 r5, .int .i64 r6, v6_], .agg #[.int .i64 r8, .int .i64 r9, .int .i64 r10, .int .i64 r11], .bool r12]) ∧ Kd.S (Kd.slice 5 (Kd.int .u8)) 29 w' w.heap.size (fun _ => True) v0_ r1 ∧ Kd.R (Kd.int .i64) 3 w' w.heap.size (fun _ => True) v6_ r7 ∧ Below w.heap.size w w' := by
 have hu70 := Try.underlying70
 have hu74 := Try.underlying74
 have hu32 := Try.underlying32
 have hu31 := Try.underlying31
 have HR0_0 := Aside0.mk hr0_0
 have HC0_0 := Aside0.mk hc0_0
 clear hr0_0 hc0_0
 have HR0_6 := Aside0.mk hr0_6
 have HC0_6 := Aside0.mk hc0_6
 clear hr0_6 hc0_6
 have HB := Aside0.mk (Below.refl w.heap.size w)
 have H : ((spec_Give.f k l0_0 a0_1 a0_2 a0_3 a0_4 a0_5 l0_6 a1_0 a1_1).bind fun bt922 => (if bt922.2.2.2.2.2.2.2.2.2.2.2 = true then (if 0 ≤ bt922.2.2.2.2.2.2.2.2.2.1 then (if (bt922.2.2.2.2.2.2.2.2.2.1 : Int).toNat ≤ 281474976710656 then ((spec_l2Write.f k bt922.1 bt922.2.2.2.2.2.2.2.1 bt922.2.2.2.2.2.2.2.2.1 bt922.2.2.2.2.2.2.2.2.2.1 bt922.2.2.2.2.2.2.2.2.2.2.1 0 (List.replicate (bt922.2.2.2.2.2.2.2.2.2.1 : Int).toNat 0)).bind fun t943 => (some (t943, bt922.2.1, bt922.2.2.1, bt922.2.2.2.1, bt922.2.2.2.2.1, bt922.2.2.2.2.2.1, bt922.2.2.2.2.2.2.1, bt922.2.2.2.2.2.2.2.1, bt922.2.2.2.2.2.2.2.2.1, bt922.2.2.2.2.2.2.2.2.2.1, bt922.2.2.2.2.2.2.2.2.2.2.1, true))) else (none)) else (none)) else (some (([] : List (List Int)), 0, 0, 0, 0, 0, ([] : List Int), 0, 0, 0, 0, false)))) = some (r1, r2, r3, r4, r5, r6, r7, r8, r9, r10, r11, r12) := h
 clear h
 replace H := Option.bind_eq_some_iff.mp H
 obtain ⟨⟨t922, t925, t926, t927, t928, t929, t930, t933, t934, t935, t936, t937⟩, A30, H⟩ := H
 replace H : (if t937 = true then (if 0 ≤ t935 then (if (t935 : Int).toNat ≤ 281474976710656 then ((spec_l2Write.f k t922 t933 t934 t935 t936 0 (List.replicate (t935 : Int).toNat 0)).bind fun t943 => (some (t943, t925, t926, t927, t928, t929, t930, t933, t934, t935, t936, true))) else (none)) else (none)) else (some (([] : List (List Int)), 0, 0, 0, 0, 0, ([] : List Int), 0, 0, 0, 0, false))) = some (r1, r2, r3, r4, r5, r6, r7, r8, r9, r10, r11, r12) := H
 have A3 := Aside0.mk A30
 clear A30
 by_cases c4 : t937 = true
 ·subst c4
  rw [if_pos rfl] at H
  by_cases c5 : 0 ≤ t935
  ·rw [if_pos c5] at H
   have c5b0 := eq_true c5
   have c5b1 : decide (0 ≤ t935) = true := decide_eq_true c5
   clear c5
   by_cases c6 : (t935 : Int).toNat ≤ 281474976710656
   ·rw [if_pos c6] at H
    have c6b0 := eq_true c6
    have c6b1 : decide ((t935 : Int).toNat ≤ 281474976710656) = true := decide_eq_true c6
    clear c6
    obtain ⟨y940, hy940⟩ : ∃ y_ : List Int, y_ = (List.replicate (t935 : Int).toNat 0) := ⟨_, rfl⟩
    replace H : ((spec_l2Write.f k t922 t933 t934 t935 t936 0 y940).bind fun t943 => (some (t943, t925, t926, t927, t928, t929, t930, t933, t934, t935, t936, true))) = some (r1, r2, r3, r4, r5, r6, r7, r8, r9, r10, r11, r12) := by first | (rw [hy940]; with_reducible exact H) | (have H2_ := (Option.bind_some _ _).symm.trans H; rw [hy940]; with_reducible exact H2_) | (have H2_ := (Option.bind_some _ _).symm.trans H; with_reducible exact H2_) | with_reducible exact H | (rw [hy940]; exact H) | exact H
    have Ny940 := Aside0.mk hy940
    clear hy940
    replace H := Option.bind_eq_some_iff.mp H
    obtain ⟨t943, A70, H⟩ := H
    replace H : (some (t943, t925, t926, t927, t928, t929, t930, t933, t934, t935, t936, true)) = some (r1, r2, r3, r4, r5, r6, r7, r8, r9, r10, r11, r12) := H
    have A7 := Aside0.mk A70
    clear A70
    simp only [Option.some.injEq, Prod.mk.injEq] at H
    obtain ⟨rfl, rfl, rfl, rfl, rfl, rfl, rfl, rfl, rfl, rfl, rfl, rfl⟩ := H
    go_enter Try.func44, Try.ntmps44
    try go_wp2_with (first | ((with_reducible refine gate_dst (N := 2) rfl ?_); refine box_event ?hg (N := 2) ?hd (cs := #[.slice A0_0 l0_0.length c0_0, .int .i64 a0_1, .int .i64 a0_2, .int .i64 a0_3, .int .i64 a0_4, .int .i64 a0_5, .slice A0_6 l0_6.length c0_6]) (t := 70) ?hr ?_; (case hd => rfl); (case hg => rfl); (case hr => exact gs_); intro gb918 hg w8 hbox hb; have BK918 := Aside0.mk (hbox); have GW918 := gE_ HB hg; have GE918 := gE_ HB hg; replace HB := Aside0.mk (below_step (by repeat (first | (with_reducible first | exact HB.out | apply ba_ | apply bn_ | apply bd_) | exact HB.out)) hb); clear hb hbox hg) | ((with_reducible refine gate_dst (N := 3) rfl ?_); refine box_event ?hg (N := 3) ?hd (cs := #[.int .i64 a1_0, .int .i64 a1_1]) (t := 74) ?hr ?_; (case hd => rfl); (case hg => rfl); (case hr => exact gs_); intro gb919 hg w9 hbox hb; have BK919 := Aside0.mk (hbox); have GW919 := gE_ HB hg; have GE919 := gE_ HB hg; replace HB := Aside0.mk (below_step (by repeat (first | (with_reducible first | exact HB.out | apply ba_ | apply bn_ | apply bd_ | refine bset_ ?_ (by assumption)) | exact HB.out)) hb); have NB918_919 := nB_ BK918 hg; have NB919_918 := nA_ BK918 hg; replace BK918 := bB_ BK918 hb; clear hb hbox hg) | ((with_reducible refine gate_dst (N := 4) rfl ?_); refine box_event ?hg (N := 4) ?hd (cs := #[.slice none 0 0, .int .i64 0, .int .i64 0, .int .i64 0, .int .i64 0, .int .i64 0, .slice none 0 0]) (t := 70) ?hr ?_; (case hd => rfl); (case hg => rfl); (case hr => exact gs_); intro gb920 hg w10 hbox hb; have BK920 := Aside0.mk (hbox); have GW920 := gE_ HB hg; have GE920 := gE_ HB hg; replace HB := Aside0.mk (below_step (by repeat (first | (with_reducible first | exact HB.out | apply ba_ | apply bn_ | apply bd_ | refine bset_ ?_ (by assumption)) | exact HB.out)) hb); have NB918_920 := nB_ BK918 hg; have NB920_918 := nA_ BK918 hg; replace BK918 := bB_ BK918 hb; have NB919_920 := nB_ BK919 hg; have NB920_919 := nA_ BK919 hg; replace BK919 := bB_ BK919 hb; clear hb hbox hg) | ((with_reducible refine gate_dst (N := 5) rfl ?_); refine box_event ?hg (N := 5) ?hd (cs := #[.int .i64 0, .int .i64 0, .int .i64 0, .int .i64 0]) (t := 32) ?hr ?_; (case hd => rfl); (case hg => rfl); (case hr => exact gs_); intro gb921 hg w11 hbox hb; have BK921 := Aside0.mk (hbox); have GW921 := gE_ HB hg; have GE921 := gE_ HB hg; replace HB := Aside0.mk (below_step (by repeat (first | (with_reducible first | exact HB.out | apply ba_ | apply bn_ | apply bd_ | refine bset_ ?_ (by assumption)) | exact HB.out)) hb); have NB918_921 := nB_ BK918 hg; have NB921_918 := nA_ BK918 hg; replace BK918 := bB_ BK918 hb; have NB919_921 := nB_ BK919 hg; have NB921_919 := nA_ BK919 hg; replace BK919 := bB_ BK919 hb; have NB920_921 := nB_ BK920 hg; have NB921_920 := nA_ BK920 hg; replace BK920 := bB_ BK920 hb; clear hb hbox hg; have hnb12 := NB918_919.out; have hnc12 := NB919_918.out; have hnb13 := NB918_920.out; have hnc13 := NB920_918.out; have hnb14 := NB918_921.out; have hnc14 := NB921_918.out; obtain ⟨hcz15_0, hcz15_1, hcz15_2, hcz15_3, hcz15_4, hcz15_5, hcz15_6, hfz15_0, hfz15_1, hfz15_2, hfz15_3, hfz15_4, hfz15_5, hfz15_6⟩ := zc7_ BK918; have hnb16 := NB919_920.out; have hnc16 := NB920_919.out; have hnb17 := NB919_921.out; have hnc17 := NB921_919.out; obtain ⟨hcz18_0, hcz18_1, hfz18_0, hfz18_1⟩ := zc2_ BK919) | ((with_reducible refine gate_callee (f := 36) rfl ?_); refine goesL_ (some 13) rfl rfl Try.func36 (by kernel_rfl) rfl #[.agg #[.slice A0_0 l0_0.length c0_0, .int .i64 a0_1, .int .i64 a0_2, .int .i64 a0_3, .int .i64 a0_4, .int .i64 a0_5, .slice A0_6 l0_6.length c0_6], .agg #[.int .i64 a1_0, .int .i64 a1_1]] rfl ar_ ?_; (with_reducible refine (spec_Give.calls k _ _ l0_0 a0_1 a0_2 a0_3 a0_4 a0_5 _ _ l0_6 a1_0 a1_1 t922 t925 t926 t927 t928 t929 t930 t933 t934 t935 t936 true _ ?side1 ?side2 ?side3 ?side4 A3.out).mono ?_); (case side1 => exact cS_ (Kd.C_below HR0_0.out HB.out)); (case side2 => exact HC0_0.out); (case side3 => exact cS_ (Kd.C_below HR0_6.out HB.out)); (case side4 => exact HC0_6.out); rintro e w19 ⟨v923, v931, rfl, ho0, ho1, hb⟩; refine ⟨_, rfl, ?_⟩; have HO924 := Aside0.mk (sL_ ho0 HB); have HO932 := Aside0.mk (rL_ ho1 HB); replace BK918 := bB_ BK918 hb; replace BK919 := bB_ BK919 hb; replace BK920 := bB_ BK920 hb; replace BK921 := bB_ BK921 hb; replace HB := Aside0.mk (below_step (by repeat (first | (with_reducible first | exact HB.out | apply ba_ | apply bn_ | apply bd_ | refine bset_ ?_ (by assumption)) | exact HB.out)) hb); (try clear hb); (try clear hb2); (try clear hk); (try clear hi); (try clear ho0); (try clear ho1)) | ((with_reducible refine gate_dst (N := 7) rfl ?_); refine box_event ?hg (N := 7) ?hd (cs := #[.slice none 0 0, .int .i64 0, .int .i64 0, .int .i64 0, .int .i64 0, .int .i64 0, .slice none 0 0]) (t := 70) ?hr ?_; (case hd => rfl); (case hg => rfl); (case hr => exact gs_); intro gb938 hg w20 hbox hb; replace HO924 := Aside0.mk (Kd.S_below (sK_ HO924) hb); replace HO932 := Aside0.mk (Kd.R_below (rK_ HO932) hb); have BK938 := Aside0.mk (hbox); have GW938 := gE_ HB hg; have GE938 := gE_ HB hg; replace HB := Aside0.mk (below_step (by repeat (first | (with_reducible first | exact HB.out | apply ba_ | apply bn_ | apply bd_ | refine bset_ ?_ (by assumption)) | exact HB.out)) hb); have NB918_938 := nB_ BK918 hg; have NB938_918 := nA_ BK918 hg; replace BK918 := bB_ BK918 hb; have NB919_938 := nB_ BK919 hg; have NB938_919 := nA_ BK919 hg; replace BK919 := bB_ BK919 hb; have NB920_938 := nB_ BK920 hg; have NB938_920 := nA_ BK920 hg; replace BK920 := bB_ BK920 hb; have NB921_938 := nB_ BK921 hg; have NB938_921 := nA_ BK921 hg; replace BK921 := bB_ BK921 hb; clear hb hbox hg) | ((with_reducible refine gate_dst (N := 8) rfl ?_); refine box_event ?hg (N := 8) ?hd (cs := #[.int .i64 0, .int .i64 0, .int .i64 0, .int .i64 0]) (t := 32) ?hr ?_; (case hd => rfl); (case hg => rfl); (case hr => exact gs_); intro gb939 hg w21 hbox hb; replace HO924 := Aside0.mk (Kd.S_below (sK_ HO924) hb); replace HO932 := Aside0.mk (Kd.R_below (rK_ HO932) hb); have BK939 := Aside0.mk (hbox); have GW939 := gE_ HB hg; have GE939 := gE_ HB hg; replace HB := Aside0.mk (below_step (by repeat (first | (with_reducible first | exact HB.out | apply ba_ | apply bn_ | apply bd_ | refine bset_ ?_ (by assumption)) | exact HB.out)) hb); have NB918_939 := nB_ BK918 hg; have NB939_918 := nA_ BK918 hg; replace BK918 := bB_ BK918 hb; have NB919_939 := nB_ BK919 hg; have NB939_919 := nA_ BK919 hg; replace BK919 := bB_ BK919 hb; have NB920_939 := nB_ BK920 hg; have NB939_920 := nA_ BK920 hg; replace BK920 := bB_ BK920 hb; have NB921_939 := nB_ BK921 hg; have NB939_921 := nA_ BK921 hg; replace BK921 := bB_ BK921 hb; have NB938_939 := nB_ BK938 hg; have NB939_938 := nA_ BK938 hg; replace BK938 := bB_ BK938 hb; clear hb hbox hg; obtain ⟨Ao22, co22, eo22⟩ := Kd.S_slice HO924.out; subst eo22; have hnb23 := NB938_918.out; have hnc23 := NB918_938.out; have hnb24 := NB938_919.out; have hnc24 := NB919_938.out; have hnb25 := NB938_920.out; have hnc25 := NB920_938.out; have hnb26 := NB938_921.out; have hnc26 := NB921_938.out; have hnb27 := NB938_939.out; have hnc27 := NB939_938.out; obtain ⟨hcz28_0, hcz28_1, hcz28_2, hcz28_3, hcz28_4, hcz28_5, hcz28_6, hfz28_0, hfz28_1, hfz28_2, hfz28_3, hfz28_4, hfz28_5, hfz28_6⟩ := zc7_ BK938; obtain ⟨Ao29, co29, eo29⟩ := Kd.R_slice HO932.out; subst eo29; have hnb30 := NB939_918.out; have hnc30 := NB918_939.out; have hnb31 := NB939_919.out; have hnc31 := NB919_939.out; have hnb32 := NB939_920.out; have hnc32 := NB920_939.out; have hnb33 := NB939_921.out; have hnc33 := NB921_939.out; obtain ⟨hcz34_0, hcz34_1, hcz34_2, hcz34_3, hfz34_0, hfz34_1, hfz34_2, hfz34_3⟩ := zc4_ BK939))
    have n0_ : Aside0 (Kd.S (Kd.slice 5 (Kd.int .u8)) 29 (((((((((((w21.setCell ⟨gb938, 0, none⟩ (.slice Ao22 t922.length co22)).setCell ⟨gb938, 1, none⟩ (.int .i64 t925)).setCell ⟨gb938, 2, none⟩ (.int .i64 t926)).setCell ⟨gb938, 3, none⟩ (.int .i64 t927)).setCell ⟨gb938, 4, none⟩ (.int .i64 t928)).setCell ⟨gb938, 5, none⟩ (.int .i64 t929)).setCell ⟨gb938, 6, none⟩ (.slice Ao29 t930.length co29)).setCell ⟨gb939, 0, none⟩ (.int .i64 t933)).setCell ⟨gb939, 1, none⟩ (.int .i64 t934)).setCell ⟨gb939, 2, none⟩ (.int .i64 t935)).setCell ⟨gb939, 3, none⟩ (.int .i64 t936)) w.heap.size (fun _ => True) (.slice Ao22 t922.length co22) t922) := ⟨by (with_reducible repeat first | apply ks1_ | apply ks2_ | apply ks3_); exact Kd.S_mono (sf4_ gb939 (sf7_ gb938 (Kd.S_types (Kd.S_types HO924.out BK938.out (by decide)) BK939.out (by decide)) (fun _ hk => hk.1.2)) (fun _ hk => hk.2)) (fun _ hk => trivial)⟩
    have n1_ : Aside0 (Kd.R (Kd.int .i64) 3 (((((((((((w21.setCell ⟨gb938, 0, none⟩ (.slice Ao22 t922.length co22)).setCell ⟨gb938, 1, none⟩ (.int .i64 t925)).setCell ⟨gb938, 2, none⟩ (.int .i64 t926)).setCell ⟨gb938, 3, none⟩ (.int .i64 t927)).setCell ⟨gb938, 4, none⟩ (.int .i64 t928)).setCell ⟨gb938, 5, none⟩ (.int .i64 t929)).setCell ⟨gb938, 6, none⟩ (.slice Ao29 t930.length co29)).setCell ⟨gb939, 0, none⟩ (.int .i64 t933)).setCell ⟨gb939, 1, none⟩ (.int .i64 t934)).setCell ⟨gb939, 2, none⟩ (.int .i64 t935)).setCell ⟨gb939, 3, none⟩ (.int .i64 t936)) w.heap.size (fun _ => True) (.slice Ao29 t930.length co29) t930) := ⟨by (with_reducible repeat first | apply kr1_ | apply kr2_ | apply kr3_); exact Kd.R_mono (rf4_ gb939 (rf7_ gb938 (Kd.R_types (Kd.R_types HO932.out BK938.out (by decide)) BK939.out (by decide)) (fun _ hk => hk.1.2)) (fun _ hk => hk.2)) (fun _ hk => trivial)⟩
    have n2_ : Aside0 ((((((((((((w21.setCell ⟨gb938, 0, none⟩ (.slice Ao22 t922.length co22)).setCell ⟨gb938, 1, none⟩ (.int .i64 t925)).setCell ⟨gb938, 2, none⟩ (.int .i64 t926)).setCell ⟨gb938, 3, none⟩ (.int .i64 t927)).setCell ⟨gb938, 4, none⟩ (.int .i64 t928)).setCell ⟨gb938, 5, none⟩ (.int .i64 t929)).setCell ⟨gb938, 6, none⟩ (.slice Ao29 t930.length co29)).setCell ⟨gb939, 0, none⟩ (.int .i64 t933)).setCell ⟨gb939, 1, none⟩ (.int .i64 t934)).setCell ⟨gb939, 2, none⟩ (.int .i64 t935)).setCell ⟨gb939, 3, none⟩ (.int .i64 t936)).heap[gb918]? = some (.cells #[.slice A0_0 l0_0.length c0_0, .int .i64 a0_1, .int .i64 a0_2, .int .i64 a0_3, .int .i64 a0_4, .int .i64 a0_5, .slice A0_6 l0_6.length c0_6] 70 (0, 0))) := ⟨by exact fB_ BK918⟩
    have n3_ : Aside0 ((((((((((((w21.setCell ⟨gb938, 0, none⟩ (.slice Ao22 t922.length co22)).setCell ⟨gb938, 1, none⟩ (.int .i64 t925)).setCell ⟨gb938, 2, none⟩ (.int .i64 t926)).setCell ⟨gb938, 3, none⟩ (.int .i64 t927)).setCell ⟨gb938, 4, none⟩ (.int .i64 t928)).setCell ⟨gb938, 5, none⟩ (.int .i64 t929)).setCell ⟨gb938, 6, none⟩ (.slice Ao29 t930.length co29)).setCell ⟨gb939, 0, none⟩ (.int .i64 t933)).setCell ⟨gb939, 1, none⟩ (.int .i64 t934)).setCell ⟨gb939, 2, none⟩ (.int .i64 t935)).setCell ⟨gb939, 3, none⟩ (.int .i64 t936)).heap[gb919]? = some (.cells #[.int .i64 a1_0, .int .i64 a1_1] 74 (0, 0))) := ⟨by exact fB_ BK919⟩
    have n4_ : Aside0 ((((((((((((w21.setCell ⟨gb938, 0, none⟩ (.slice Ao22 t922.length co22)).setCell ⟨gb938, 1, none⟩ (.int .i64 t925)).setCell ⟨gb938, 2, none⟩ (.int .i64 t926)).setCell ⟨gb938, 3, none⟩ (.int .i64 t927)).setCell ⟨gb938, 4, none⟩ (.int .i64 t928)).setCell ⟨gb938, 5, none⟩ (.int .i64 t929)).setCell ⟨gb938, 6, none⟩ (.slice Ao29 t930.length co29)).setCell ⟨gb939, 0, none⟩ (.int .i64 t933)).setCell ⟨gb939, 1, none⟩ (.int .i64 t934)).setCell ⟨gb939, 2, none⟩ (.int .i64 t935)).setCell ⟨gb939, 3, none⟩ (.int .i64 t936)).heap[gb920]? = some (.cells #[.slice none 0 0, .int .i64 0, .int .i64 0, .int .i64 0, .int .i64 0, .int .i64 0, .slice none 0 0] 70 (0, 0))) := ⟨by exact fB_ BK920⟩
    have n5_ : Aside0 ((((((((((((w21.setCell ⟨gb938, 0, none⟩ (.slice Ao22 t922.length co22)).setCell ⟨gb938, 1, none⟩ (.int .i64 t925)).setCell ⟨gb938, 2, none⟩ (.int .i64 t926)).setCell ⟨gb938, 3, none⟩ (.int .i64 t927)).setCell ⟨gb938, 4, none⟩ (.int .i64 t928)).setCell ⟨gb938, 5, none⟩ (.int .i64 t929)).setCell ⟨gb938, 6, none⟩ (.slice Ao29 t930.length co29)).setCell ⟨gb939, 0, none⟩ (.int .i64 t933)).setCell ⟨gb939, 1, none⟩ (.int .i64 t934)).setCell ⟨gb939, 2, none⟩ (.int .i64 t935)).setCell ⟨gb939, 3, none⟩ (.int .i64 t936)).heap[gb921]? = some (.cells #[.int .i64 0, .int .i64 0, .int .i64 0, .int .i64 0] 32 (0, 0))) := ⟨by exact fB_ BK921⟩
    have n6_ : Aside0 ((((((((((((w21.setCell ⟨gb938, 0, none⟩ (.slice Ao22 t922.length co22)).setCell ⟨gb938, 1, none⟩ (.int .i64 t925)).setCell ⟨gb938, 2, none⟩ (.int .i64 t926)).setCell ⟨gb938, 3, none⟩ (.int .i64 t927)).setCell ⟨gb938, 4, none⟩ (.int .i64 t928)).setCell ⟨gb938, 5, none⟩ (.int .i64 t929)).setCell ⟨gb938, 6, none⟩ (.slice Ao29 t930.length co29)).setCell ⟨gb939, 0, none⟩ (.int .i64 t933)).setCell ⟨gb939, 1, none⟩ (.int .i64 t934)).setCell ⟨gb939, 2, none⟩ (.int .i64 t935)).setCell ⟨gb939, 3, none⟩ (.int .i64 t936)).heap[gb938]? = some (.cells #[.slice Ao22 t922.length co22, .int .i64 t925, .int .i64 t926, .int .i64 t927, .int .i64 t928, .int .i64 t929, .slice Ao29 t930.length co29] 70 (0, 0))) := ⟨by exact fB_ BK938⟩
    have n7_ : Aside0 ((((((((((((w21.setCell ⟨gb938, 0, none⟩ (.slice Ao22 t922.length co22)).setCell ⟨gb938, 1, none⟩ (.int .i64 t925)).setCell ⟨gb938, 2, none⟩ (.int .i64 t926)).setCell ⟨gb938, 3, none⟩ (.int .i64 t927)).setCell ⟨gb938, 4, none⟩ (.int .i64 t928)).setCell ⟨gb938, 5, none⟩ (.int .i64 t929)).setCell ⟨gb938, 6, none⟩ (.slice Ao29 t930.length co29)).setCell ⟨gb939, 0, none⟩ (.int .i64 t933)).setCell ⟨gb939, 1, none⟩ (.int .i64 t934)).setCell ⟨gb939, 2, none⟩ (.int .i64 t935)).setCell ⟨gb939, 3, none⟩ (.int .i64 t936)).heap[gb939]? = some (.cells #[.int .i64 t933, .int .i64 t934, .int .i64 t935, .int .i64 t936] 32 (0, 0))) := ⟨by exact fB_ BK939⟩
    have n8_ : Aside0 (Below w.heap.size w (((((((((((w21.setCell ⟨gb938, 0, none⟩ (.slice Ao22 t922.length co22)).setCell ⟨gb938, 1, none⟩ (.int .i64 t925)).setCell ⟨gb938, 2, none⟩ (.int .i64 t926)).setCell ⟨gb938, 3, none⟩ (.int .i64 t927)).setCell ⟨gb938, 4, none⟩ (.int .i64 t928)).setCell ⟨gb938, 5, none⟩ (.int .i64 t929)).setCell ⟨gb938, 6, none⟩ (.slice Ao29 t930.length co29)).setCell ⟨gb939, 0, none⟩ (.int .i64 t933)).setCell ⟨gb939, 1, none⟩ (.int .i64 t934)).setCell ⟨gb939, 2, none⟩ (.int .i64 t935)).setCell ⟨gb939, 3, none⟩ (.int .i64 t936))) := ⟨by repeat (first | (with_reducible first | exact HB.out | apply below_alloc | apply pw_below_drewN | apply below_drew1 | refine below_set ?_ GE918.out | refine below_set ?_ GE919.out | refine below_set ?_ GE920.out | refine below_set ?_ GE921.out | refine below_set ?_ GE938.out | refine below_set ?_ GE939.out) | exact HB.out)⟩
    (try clear HO924)
    (try clear HO932)
    (try clear BK918)
    (try clear BK919)
    (try clear BK920)
    (try clear BK921)
    (try clear BK938)
    (try clear BK939)
    (try clear HB)
    generalize (((((((((((w21.setCell ⟨gb938, 0, none⟩ (.slice Ao22 t922.length co22)).setCell ⟨gb938, 1, none⟩ (.int .i64 t925)).setCell ⟨gb938, 2, none⟩ (.int .i64 t926)).setCell ⟨gb938, 3, none⟩ (.int .i64 t927)).setCell ⟨gb938, 4, none⟩ (.int .i64 t928)).setCell ⟨gb938, 5, none⟩ (.int .i64 t929)).setCell ⟨gb938, 6, none⟩ (.slice Ao29 t930.length co29)).setCell ⟨gb939, 0, none⟩ (.int .i64 t933)).setCell ⟨gb939, 1, none⟩ (.int .i64 t934)).setCell ⟨gb939, 2, none⟩ (.int .i64 t935)).setCell ⟨gb939, 3, none⟩ (.int .i64 t936)) = w35 at n0_ n1_ n2_ n3_ n4_ n5_ n6_ n7_ n8_ ⊢
    have HO924 := n0_
    have HO932 := n1_
    have BK918 := n2_
    have BK919 := n3_
    have BK920 := n4_
    have BK921 := n5_
    have BK938 := n6_
    have BK939 := n7_
    have HB := n8_
    clear n0_ n1_ n2_ n3_ n4_ n5_ n6_ n7_ n8_
    replace HO924 := Aside0.mk (Kd.S_drew HO924.out)
    replace HO932 := Aside0.mk (Kd.R_drew HO932.out)
    replace BK918 := Aside0.mk (blk_drew BK918.out)
    replace BK919 := Aside0.mk (blk_drew BK919.out)
    replace BK920 := Aside0.mk (blk_drew BK920.out)
    replace BK921 := Aside0.mk (blk_drew BK921.out)
    replace BK938 := Aside0.mk (blk_drew BK938.out)
    replace BK939 := Aside0.mk (blk_drew BK939.out)
    replace HB := Aside0.mk (below_drew1 HB.out)
    refine start_ (n := 9) (S := fun w' => w'.cell? ⟨gb938, 0, none⟩ = some (.slice Ao22 t922.length co22) ∧ w'.cell? ⟨gb938, 1, none⟩ = some (.int .i64 t925) ∧ w'.cell? ⟨gb938, 2, none⟩ = some (.int .i64 t926) ∧ w'.cell? ⟨gb938, 3, none⟩ = some (.int .i64 t927) ∧ w'.cell? ⟨gb938, 4, none⟩ = some (.int .i64 t928) ∧ w'.cell? ⟨gb938, 5, none⟩ = some (.int .i64 t929) ∧ w'.cell? ⟨gb938, 6, none⟩ = some (.slice Ao29 t930.length co29) ∧ w'.cell? ⟨gb939, 0, none⟩ = some (.int .i64 t933) ∧ w'.cell? ⟨gb939, 1, none⟩ = some (.int .i64 t934) ∧ w'.cell? ⟨gb939, 2, none⟩ = some (.int .i64 t935) ∧ w'.cell? ⟨gb939, 3, none⟩ = some (.int .i64 t936)) (ds := [8]) #[false, false, false, false, false, false, false, false, false] (by kernel_rfl) rfl rfl ⟨(blk_cell BK938.out 0).trans rfl, (blk_cell BK938.out 1).trans rfl, (blk_cell BK938.out 2).trans rfl, (blk_cell BK938.out 3).trans rfl, (blk_cell BK938.out 4).trans rfl, (blk_cell BK938.out 5).trans rfl, (blk_cell BK938.out 6).trans rfl, (blk_cell BK939.out 0).trans rfl, (blk_cell BK939.out 1).trans rfl, (blk_cell BK939.out 2).trans rfl, (blk_cell BK939.out 3).trans rfl⟩ (fun hHeld => ?_); refine with_tabW spec_GiveZero.tab4 spec_GiveZero.bits4 (fun HT_ HW_ => ?_)
    generalize w35.drew = w36 at HO924 HO932 BK918 BK919 BK920 BK921 BK938 BK939 HB hHeld ⊢
    refine pure_ (i := 0) (N := some 21) (v := ?_) (a' := ?_) #[true, false, false, false, false, false, false, false, false] rfl rfl (any_of HT_.out (by kernel_rfl)) (fun _ _ _ h => h) (Or.inl ⟨by rfl, ?_⟩) ?_ ?_
    rotate_left
    ·intro w'
     go_simp
     with_reducible rfl
    rotate_left
    ·simp only [Act.put, List.setIfInBounds_toArray, List.set_cons_zero, List.set_cons_succ, i64_w, i32_w]
     rfl
    refine pure_ (i := 3) (N := some 24) (v := ?_) (a' := ?_) #[true, false, false, true, false, false, false, false, false] rfl rfl (any_of HT_.out (by kernel_rfl)) (fun _ _ _ h => h) (Or.inl ⟨by rfl, ?_⟩) ?_ ?_
    rotate_left
    ·intro w'
     go_simp
     with_reducible rfl
    rotate_left
    ·simp only [Act.put, List.setIfInBounds_toArray, List.set_cons_zero, List.set_cons_succ, i64_w, i32_w]
     rfl
    refine take_ (i := 1) (N := some 22) (v := ?_) (a' := ?_) #[true, true, false, true, false, false, false, false, false] rfl rfl (take_ofW HT_.out HW_.out (by kernel_rfl)) (fun _ _ _ h => h) (Or.inl ⟨by rfl, ?_⟩) hHeld ?_ ?_
    rotate_left
    ·rintro w' ⟨s0, s1, s2, s3, s4, s5, s6, s7, s8, s9, s10⟩
     go_simp
     with_reducible rfl
    rotate_left
    ·simp only [Act.put, List.setIfInBounds_toArray, List.set_cons_zero, List.set_cons_succ, i64_w, i32_w]
     rfl
    refine take_ (i := 2) (N := some 23) (v := ?_) (a' := ?_) #[true, true, true, true, false, false, false, false, false] rfl rfl (take_ofW HT_.out HW_.out (by kernel_rfl)) (fun _ _ _ h => h) (Or.inl ⟨by rfl, ?_⟩) hHeld ?_ ?_
    rotate_left
    ·rintro w' ⟨s0, s1, s2, s3, s4, s5, s6, s7, s8, s9, s10⟩
     go_simp
     with_reducible rfl
    rotate_left
    ·simp only [Act.put, List.setIfInBounds_toArray, List.set_cons_zero, List.set_cons_succ, i64_w, i32_w]
     rfl
    refine take_ (i := 4) (N := some 25) (v := ?_) (a' := ?_) #[true, true, true, true, true, false, false, false, false] rfl rfl (take_ofW HT_.out HW_.out (by kernel_rfl)) (fun _ _ _ h => h) (Or.inl ⟨by rfl, ?_⟩) hHeld ?_ ?_
    rotate_left
    ·rintro w' ⟨s0, s1, s2, s3, s4, s5, s6, s7, s8, s9, s10⟩
     go_simp
     with_reducible rfl
    rotate_left
    ·simp only [Act.put, List.setIfInBounds_toArray, List.set_cons_zero, List.set_cons_succ, i64_w, i32_w]
     rfl
    refine one_ (i := 5) (N := some 26) #[true, true, true, true, true, true, false, false, false] rfl rfl (one_of HT_.out (by kernel_rfl)) (by decide) (fun K hK => ?_)
    refine Kd.R_make_step (Kd.int .u8) _ 5 (by rfl) (N := 26) rfl 29 _ _ rfl t935 rfl rfl Try.underlying29 (.int .u8 0) 1 info5 rfl (by decide) (by omega) 0 (ok := fun _ => True) (okp := fun _ => True) rfl (fun _ hk => hk) trivial (of_decide_eq_true as_) (Nat.le_trans (Nat.mul_le_mul_right _ (of_decide_eq_true as_ : t935.toNat ≤ 281474976710656)) (by omega)) (Below.refl _ _) (Nat.le_refl _) ?_
    intro v941 w37 ho38 hb hg_ hnew_
    clear hg_ hnew_
    (first | rw [← Ny940.out] at ho38 | (simp only [Int.reduceToNat] at ho38; rw [← Ny940.out] at ho38))
    replace HO924 := Aside0.mk (Kd.S_elder' (sK_ HO924) (Kd.R_base ho38) hb)
    replace HO932 := Aside0.mk (Kd.R_below (rK_ HO932) hb)
    have HO942 := Aside0.mk (rL_ ho38 HB)
    replace BK918 := bB_ BK918 hb
    replace BK919 := bB_ BK919 hb
    replace BK920 := bB_ BK920 hb
    replace BK921 := bB_ BK921 hb
    replace BK938 := bB_ BK938 hb
    replace BK939 := bB_ BK939 hb
    replace HB := Aside0.mk (below_step (by repeat (first | (with_reducible first | exact HB.out | apply ba_ | apply bn_ | apply bd_ | refine bset_ ?_ (by assumption)) | exact HB.out)) hb)
    clear hb ho38
    obtain ⟨Ao39, co39, eo39⟩ := Kd.R_slice HO942.out
    (first | subst eo39 | (injection eo39 with f1_ f2_ f3_; have f4_ := f1_.symm; have f5_ := f3_.symm; clear f1_ f2_ f3_; subst f4_; subst f5_))
    refine hK.out _ _ ⟨(blk_cell BK938.out 0).trans rfl, (blk_cell BK938.out 1).trans rfl, (blk_cell BK938.out 2).trans rfl, (blk_cell BK938.out 3).trans rfl, (blk_cell BK938.out 4).trans rfl, (blk_cell BK938.out 5).trans rfl, (blk_cell BK938.out 6).trans rfl, (blk_cell BK939.out 0).trans rfl, (blk_cell BK939.out 1).trans rfl, (blk_cell BK939.out 2).trans rfl, (blk_cell BK939.out 3).trans rfl⟩ (fun hHeld => ?_)
    clear hK K
    refine norm_ (a' := ?_) ?_ ?_
    rotate_left
    ·show Act.put _ (some 26) _ = _
     simp only [Act.put, List.setIfInBounds_toArray, List.set_cons_zero, List.set_cons_succ, i64_w, i32_w]
     rfl
    refine one_ (i := 6) (N := some 27) #[true, true, true, true, true, true, true, false, false] rfl rfl (one_of HT_.out (by kernel_rfl)) (by decide) (fun K hK => ?_)
    refine goes_ Try.func106 (by kernel_rfl) rfl #[.agg #[.slice Ao22 t922.length co22], .agg #[.int .i64 t933, .int .i64 t934, .int .i64 t935, .int .i64 t936], .int .i64 0, .slice Ao39 y940.length co39] (by rfl) rfl rfl ar_ ?_
    with_reducible refine (spec_l2Write.calls k _ _ t922 t933 t934 t935 t936 0 _ _ y940 t943 _ ?side1 ?side2 ?side3 ?side4 A7.out).mono ?_
    (case side1 => repeat (first | exact (Kd.S_reads' HO924.out).2.2 | (with_reducible refine Kd.C_alloc ?_ _) | (with_reducible refine Kd.C_drewN ?_ _) | (with_reducible refine Kd.C_drew ?_)))
    (case side2 => exact (Kd.S_reads' HO924.out).2.1)
    (case side3 => repeat (first | exact (Kd.R_reads' HO942.out).2.2 | (with_reducible refine Kd.C_alloc ?_ _) | (with_reducible refine Kd.C_drewN ?_ _) | (with_reducible refine Kd.C_drew ?_)))
    (case side4 => exact (Kd.R_reads' HO942.out).2.1)
    rintro e w40 ⟨v944, rfl, ho0, hb⟩
    refine ⟨_, rfl, ?_⟩
    replace HO932 := Aside0.mk (Kd.R_below (rK_ HO932) hb)
    have HO945 := Aside0.mk (sL_ (Kd.S_new' (Kd.S_new' ho0 (Kd.S_lt (sK_ HO924))) (Kd.R_lt (rK_ HO942))) HB)
    replace HO924 := Aside0.mk (Kd.S_elder' (sK_ HO924) (Kd.S_base ho0) hb)
    replace HO942 := Aside0.mk (Kd.R_below (rK_ HO942) hb)
    replace BK918 := bB_ BK918 hb
    replace BK919 := bB_ BK919 hb
    replace BK920 := bB_ BK920 hb
    replace BK921 := bB_ BK921 hb
    replace BK938 := bB_ BK938 hb
    replace BK939 := bB_ BK939 hb
    replace HB := Aside0.mk (below_step (by repeat (first | (with_reducible first | exact HB.out | apply ba_ | apply bn_ | apply bd_ | refine bset_ ?_ (by assumption)) | exact HB.out)) hb)
    (try clear hb)
    (try clear hb2)
    (try clear hk)
    (try clear hi)
    (try clear ho0)
    obtain ⟨Ao41, co41, eo41⟩ := Kd.S_slice HO945.out
    (first | subst eo41 | (injection eo41 with f1_ f2_ f3_; have f4_ := f1_.symm; have f5_ := f3_.symm; clear f1_ f2_ f3_; subst f4_; subst f5_))
    refine hK.out _ _ ⟨(blk_cell BK938.out 0).trans rfl, (blk_cell BK938.out 1).trans rfl, (blk_cell BK938.out 2).trans rfl, (blk_cell BK938.out 3).trans rfl, (blk_cell BK938.out 4).trans rfl, (blk_cell BK938.out 5).trans rfl, (blk_cell BK938.out 6).trans rfl, (blk_cell BK939.out 0).trans rfl, (blk_cell BK939.out 1).trans rfl, (blk_cell BK939.out 2).trans rfl, (blk_cell BK939.out 3).trans rfl⟩ (fun hHeld => ?_)
    clear hK K
    refine norm_ (a' := ?_) ?_ ?_
    rotate_left
    ·show Act.put _ (some 27) _ = _
     simp only [Act.put, List.setIfInBounds_toArray, List.set_cons_zero, List.set_cons_succ, i64_w, i32_w]
     rfl
    refine pure_ (i := 7) (N := some 28) (v := ?_) (a' := ?_) #[true, true, true, true, true, true, true, true, false] rfl rfl (any_of HT_.out (by kernel_rfl)) (fun _ _ _ h => h) (Or.inl ⟨by rfl, ?_⟩) ?_ ?_
    rotate_left
    ·intro w'
     go_simp
     with_reducible rfl
    rotate_left
    ·simp only [Act.put, List.setIfInBounds_toArray, List.set_cons_zero, List.set_cons_succ, i64_w, i32_w]
     rfl
    refine last_ (i := 8) (N := none) #[true, true, true, true, true, true, true, true, true] rfl rfl (one_of HT_.out (by kernel_rfl)) (by decide) (fun K hK => ?_)
    have hs42 : w40.cell? ⟨gb938, 0, none⟩ = some (.slice Ao22 t922.length co22) := (blk_cell BK938.out 0).trans rfl
    have hfs42 := blk_frozen BK938.out 0
    have hns42_0 := NB918_938.out
    have hns42_1 := NB919_938.out
    have hns42_2 := NB920_938.out
    have hns42_3 := NB921_938.out
    have hns42_5 := NB939_938.out
    have hms42_0 := NB938_918.out
    have hms42_1 := NB938_919.out
    have hms42_2 := NB938_920.out
    have hms42_3 := NB938_921.out
    have hms42_5 := NB938_939.out
    refine skip_ (w1 := ?_) (by rfl) rfl ?_ ?_
    rotate_left
    ·go_simp
     rfl
    refine hK.out _ _ ?_
    clear hK K
    refine done_ (done_of HT_.out (by kernel_rfl)) ?_
    try go_wp2
    have n0_ : Aside0 (Kd.S (Kd.slice 5 (Kd.int .u8)) 29 (w40.setCell ⟨gb938, 0, none⟩ (.slice Ao41 t943.length co41)) w.heap.size (fun k_ => some k_ ≠ (.slice Ao39 y940.length co39 : Value).ownBlock ∧ some k_ ≠ (.slice Ao41 t943.length co41 : Value).ownBlock) (.slice Ao22 t922.length co22) t922) := ⟨by (with_reducible repeat first | apply ks1_ | apply ks2_ | apply ks3_); exact Kd.S_mono (sf1_ gb938 (Kd.S_types HO924.out BK938.out (by decide)) (fun _ hk => hk.2)) (fun _ hk => ⟨hk.1.1.2, hk.1.2⟩)⟩
    have n1_ : Aside0 (Kd.R (Kd.int .i64) 3 (w40.setCell ⟨gb938, 0, none⟩ (.slice Ao41 t943.length co41)) w.heap.size (fun _ => True) (.slice Ao29 t930.length co29) t930) := ⟨by (with_reducible repeat first | apply kr1_ | apply kr2_ | apply kr3_); exact Kd.R_mono (rf1_ gb938 (Kd.R_types HO932.out BK938.out (by decide)) (fun _ hk => hk.2)) (fun _ hk => trivial)⟩
    have n2_ : Aside0 (Kd.R (Kd.int .u8) 5 (w40.setCell ⟨gb938, 0, none⟩ (.slice Ao41 t943.length co41)) w.heap.size (fun _ => True) (.slice Ao39 y940.length co39) y940) := ⟨by (with_reducible repeat first | apply kr1_ | apply kr2_ | apply kr3_); exact Kd.R_mono (rf1_ gb938 (Kd.R_types HO942.out BK938.out (by decide)) (fun _ hk => hk.2)) (fun _ hk => trivial)⟩
    have n3_ : Aside0 (Kd.S (Kd.slice 5 (Kd.int .u8)) 29 (w40.setCell ⟨gb938, 0, none⟩ (.slice Ao41 t943.length co41)) w.heap.size (fun k_ => some k_ ≠ (.slice Ao22 t922.length co22 : Value).ownBlock ∧ some k_ ≠ (.slice Ao39 y940.length co39 : Value).ownBlock) (.slice Ao41 t943.length co41) t943) := ⟨by (with_reducible repeat first | apply ks1_ | apply ks2_ | apply ks3_); exact Kd.S_mono (sf1_ gb938 (Kd.S_types HO945.out BK938.out (by decide)) (fun _ hk => hk.2)) (fun _ hk => ⟨hk.1.1.2, hk.1.2⟩)⟩
    have n4_ : Aside0 ((w40.setCell ⟨gb938, 0, none⟩ (.slice Ao41 t943.length co41)).heap[gb918]? = some (.cells #[.slice A0_0 l0_0.length c0_0, .int .i64 a0_1, .int .i64 a0_2, .int .i64 a0_3, .int .i64 a0_4, .int .i64 a0_5, .slice A0_6 l0_6.length c0_6] 70 (0, 0))) := ⟨by exact fB_ BK918⟩
    have n5_ : Aside0 ((w40.setCell ⟨gb938, 0, none⟩ (.slice Ao41 t943.length co41)).heap[gb919]? = some (.cells #[.int .i64 a1_0, .int .i64 a1_1] 74 (0, 0))) := ⟨by exact fB_ BK919⟩
    have n6_ : Aside0 ((w40.setCell ⟨gb938, 0, none⟩ (.slice Ao41 t943.length co41)).heap[gb920]? = some (.cells #[.slice none 0 0, .int .i64 0, .int .i64 0, .int .i64 0, .int .i64 0, .int .i64 0, .slice none 0 0] 70 (0, 0))) := ⟨by exact fB_ BK920⟩
    have n7_ : Aside0 ((w40.setCell ⟨gb938, 0, none⟩ (.slice Ao41 t943.length co41)).heap[gb921]? = some (.cells #[.int .i64 0, .int .i64 0, .int .i64 0, .int .i64 0] 32 (0, 0))) := ⟨by exact fB_ BK921⟩
    have n8_ : Aside0 ((w40.setCell ⟨gb938, 0, none⟩ (.slice Ao41 t943.length co41)).heap[gb938]? = some (.cells #[.slice Ao41 t943.length co41, .int .i64 t925, .int .i64 t926, .int .i64 t927, .int .i64 t928, .int .i64 t929, .slice Ao29 t930.length co29] 70 (0, 0))) := ⟨by (with_reducible repeat first | apply kb1_ | apply kb2_ | apply kb3_); refine blk_put (cs := #[.slice Ao22 t922.length co22, .int .i64 t925, .int .i64 t926, .int .i64 t927, .int .i64 t928, .int .i64 t929, .slice Ao29 t930.length co29]) ?_ 0 _ rfl; (with_reducible repeat first | apply kb1_ | apply kb2_ | apply kb3_); exact BK938.out⟩
    have n9_ : Aside0 ((w40.setCell ⟨gb938, 0, none⟩ (.slice Ao41 t943.length co41)).heap[gb939]? = some (.cells #[.int .i64 t933, .int .i64 t934, .int .i64 t935, .int .i64 t936] 32 (0, 0))) := ⟨by exact fB_ BK939⟩
    have n10_ : Aside0 (Below w.heap.size w (w40.setCell ⟨gb938, 0, none⟩ (.slice Ao41 t943.length co41))) := ⟨by repeat (first | (with_reducible first | exact HB.out | apply below_alloc | apply pw_below_drewN | apply below_drew1 | refine below_set ?_ GE918.out | refine below_set ?_ GE919.out | refine below_set ?_ GE920.out | refine below_set ?_ GE921.out | refine below_set ?_ GE938.out | refine below_set ?_ GE939.out) | exact HB.out)⟩
    (try clear HO924)
    (try clear HO932)
    (try clear HO942)
    (try clear HO945)
    (try clear BK918)
    (try clear BK919)
    (try clear BK920)
    (try clear BK921)
    (try clear BK938)
    (try clear BK939)
    (try clear HB)
    generalize (w40.setCell ⟨gb938, 0, none⟩ (.slice Ao41 t943.length co41)) = w43 at n0_ n1_ n2_ n3_ n4_ n5_ n6_ n7_ n8_ n9_ n10_ ⊢
    have HO924 := n0_
    have HO932 := n1_
    have HO942 := n2_
    have HO945 := n3_
    have BK918 := n4_
    have BK919 := n5_
    have BK920 := n6_
    have BK921 := n7_
    have BK938 := n8_
    have BK939 := n9_
    have HB := n10_
    clear n0_ n1_ n2_ n3_ n4_ n5_ n6_ n7_ n8_ n9_ n10_
    replace HO924 := Aside0.mk (Kd.S_drew HO924.out)
    replace HO932 := Aside0.mk (Kd.R_drew HO932.out)
    replace HO942 := Aside0.mk (Kd.R_drew HO942.out)
    replace HO945 := Aside0.mk (Kd.S_drew HO945.out)
    replace BK918 := Aside0.mk (blk_drew BK918.out)
    replace BK919 := Aside0.mk (blk_drew BK919.out)
    replace BK920 := Aside0.mk (blk_drew BK920.out)
    replace BK921 := Aside0.mk (blk_drew BK921.out)
    replace BK938 := Aside0.mk (blk_drew BK938.out)
    replace BK939 := Aside0.mk (blk_drew BK939.out)
    replace HB := Aside0.mk (below_drew1 HB.out)
    refine start_ (n := 5) (S := fun w' => w'.cell? ⟨gb938, 0, none⟩ = some (.slice Ao41 t943.length co41) ∧ w'.cell? ⟨gb938, 1, none⟩ = some (.int .i64 t925) ∧ w'.cell? ⟨gb938, 2, none⟩ = some (.int .i64 t926) ∧ w'.cell? ⟨gb938, 3, none⟩ = some (.int .i64 t927) ∧ w'.cell? ⟨gb938, 4, none⟩ = some (.int .i64 t928) ∧ w'.cell? ⟨gb938, 5, none⟩ = some (.int .i64 t929) ∧ w'.cell? ⟨gb938, 6, none⟩ = some (.slice Ao29 t930.length co29) ∧ w'.cell? ⟨gb939, 0, none⟩ = some (.int .i64 t933) ∧ w'.cell? ⟨gb939, 1, none⟩ = some (.int .i64 t934) ∧ w'.cell? ⟨gb939, 2, none⟩ = some (.int .i64 t935) ∧ w'.cell? ⟨gb939, 3, none⟩ = some (.int .i64 t936)) (ds := []) #[false, false, false, false, false] (by kernel_rfl) rfl rfl ⟨(blk_cell BK938.out 0).trans rfl, (blk_cell BK938.out 1).trans rfl, (blk_cell BK938.out 2).trans rfl, (blk_cell BK938.out 3).trans rfl, (blk_cell BK938.out 4).trans rfl, (blk_cell BK938.out 5).trans rfl, (blk_cell BK938.out 6).trans rfl, (blk_cell BK939.out 0).trans rfl, (blk_cell BK939.out 1).trans rfl, (blk_cell BK939.out 2).trans rfl, (blk_cell BK939.out 3).trans rfl⟩ (fun hHeld => ?_)
    generalize w43.drew = w44 at HO924 HO932 HO942 HO945 BK918 BK919 BK920 BK921 BK938 BK939 HB hHeld ⊢
    refine take_ (i := 0) (N := some 29) (v := ?_) (a' := ?_) #[true, false, false, false, false] rfl rfl (by kernel_rfl) (fun _ _ _ h => h) (Or.inl ⟨by rfl, ?_⟩) hHeld ?_ ?_
    rotate_left
    ·rintro w' ⟨s0, s1, s2, s3, s4, s5, s6, s7, s8, s9, s10⟩
     go_simp
     with_reducible rfl
    rotate_left
    ·simp only [Act.put, List.setIfInBounds_toArray, List.set_cons_zero, List.set_cons_succ, i64_w, i32_w]
     rfl
    refine take_ (i := 1) (N := some 30) (v := ?_) (a' := ?_) #[true, true, false, false, false] rfl rfl (by kernel_rfl) (fun _ _ _ h => h) (Or.inl ⟨by rfl, ?_⟩) hHeld ?_ ?_
    rotate_left
    ·rintro w' ⟨s0, s1, s2, s3, s4, s5, s6, s7, s8, s9, s10⟩
     go_simp
     with_reducible rfl
    rotate_left
    ·simp only [Act.put, List.setIfInBounds_toArray, List.set_cons_zero, List.set_cons_succ, i64_w, i32_w]
     rfl
    refine one_ (i := 2) (N := none) #[true, true, true, false, false] rfl rfl (by kernel_rfl) (by decide) (fun K hK => ?_)
    have hs45 : w44.cell? ⟨gb920, 0, none⟩ = some (.slice none 0 0) := (blk_cell BK920.out 0).trans rfl
    have hfs45 := blk_frozen BK920.out 0
    have hns45_0 := NB918_920.out
    have hns45_1 := NB919_920.out
    have hns45_3 := NB921_920.out
    have hns45_4 := NB938_920.out
    have hns45_5 := NB939_920.out
    have hms45_0 := NB920_918.out
    have hms45_1 := NB920_919.out
    have hms45_3 := NB920_921.out
    have hms45_4 := NB920_938.out
    have hms45_5 := NB920_939.out
    have hs46 : w44.cell? ⟨gb920, 1, none⟩ = some (.int .i64 0) := (blk_cell BK920.out 1).trans rfl
    have hfs46 := blk_frozen BK920.out 1
    have hs47 : w44.cell? ⟨gb920, 2, none⟩ = some (.int .i64 0) := (blk_cell BK920.out 2).trans rfl
    have hfs47 := blk_frozen BK920.out 2
    have hs48 : w44.cell? ⟨gb920, 3, none⟩ = some (.int .i64 0) := (blk_cell BK920.out 3).trans rfl
    have hfs48 := blk_frozen BK920.out 3
    have hs49 : w44.cell? ⟨gb920, 4, none⟩ = some (.int .i64 0) := (blk_cell BK920.out 4).trans rfl
    have hfs49 := blk_frozen BK920.out 4
    have hs50 : w44.cell? ⟨gb920, 5, none⟩ = some (.int .i64 0) := (blk_cell BK920.out 5).trans rfl
    have hfs50 := blk_frozen BK920.out 5
    have hs51 : w44.cell? ⟨gb920, 6, none⟩ = some (.slice none 0 0) := (blk_cell BK920.out 6).trans rfl
    have hfs51 := blk_frozen BK920.out 6
    refine skip_ (w1 := ?_) (by rfl) rfl ?_ ?_
    rotate_left
    ·go_simp
     rfl
    refine hK.out _ _ ⟨(by (with_reducible repeat (refine (cell_far (p := ⟨gb920, _, none⟩) NB938_920.out _).trans ?_)); exact hHeld.1), (by (with_reducible repeat (refine (cell_far (p := ⟨gb920, _, none⟩) NB938_920.out _).trans ?_)); exact hHeld.2.1), (by (with_reducible repeat (refine (cell_far (p := ⟨gb920, _, none⟩) NB938_920.out _).trans ?_)); exact hHeld.2.2.1), (by (with_reducible repeat (refine (cell_far (p := ⟨gb920, _, none⟩) NB938_920.out _).trans ?_)); exact hHeld.2.2.2.1), (by (with_reducible repeat (refine (cell_far (p := ⟨gb920, _, none⟩) NB938_920.out _).trans ?_)); exact hHeld.2.2.2.2.1), (by (with_reducible repeat (refine (cell_far (p := ⟨gb920, _, none⟩) NB938_920.out _).trans ?_)); exact hHeld.2.2.2.2.2.1), (by (with_reducible repeat (refine (cell_far (p := ⟨gb920, _, none⟩) NB938_920.out _).trans ?_)); exact hHeld.2.2.2.2.2.2.1), (by (with_reducible repeat (refine (cell_far (p := ⟨gb920, _, none⟩) NB939_920.out _).trans ?_)); exact hHeld.2.2.2.2.2.2.2.1), (by (with_reducible repeat (refine (cell_far (p := ⟨gb920, _, none⟩) NB939_920.out _).trans ?_)); exact hHeld.2.2.2.2.2.2.2.2.1), (by (with_reducible repeat (refine (cell_far (p := ⟨gb920, _, none⟩) NB939_920.out _).trans ?_)); exact hHeld.2.2.2.2.2.2.2.2.2.1), (by (with_reducible repeat (refine (cell_far (p := ⟨gb920, _, none⟩) NB939_920.out _).trans ?_)); exact hHeld.2.2.2.2.2.2.2.2.2.2)⟩ (fun hHeld => ?_)
    clear hK K
    refine one_ (i := 3) (N := none) #[true, true, true, true, false] rfl rfl (by kernel_rfl) (by decide) (fun K hK => ?_)
    have hs52 : w44.cell? ⟨gb921, 0, none⟩ = some (.int .i64 0) := (blk_cell BK921.out 0).trans rfl
    have hfs52 := blk_frozen BK921.out 0
    have hns52_0 := NB918_921.out
    have hns52_1 := NB919_921.out
    have hns52_2 := NB920_921.out
    have hns52_4 := NB938_921.out
    have hns52_5 := NB939_921.out
    have hms52_0 := NB921_918.out
    have hms52_1 := NB921_919.out
    have hms52_2 := NB921_920.out
    have hms52_4 := NB921_938.out
    have hms52_5 := NB921_939.out
    have hs53 : w44.cell? ⟨gb921, 1, none⟩ = some (.int .i64 0) := (blk_cell BK921.out 1).trans rfl
    have hfs53 := blk_frozen BK921.out 1
    have hs54 : w44.cell? ⟨gb921, 2, none⟩ = some (.int .i64 0) := (blk_cell BK921.out 2).trans rfl
    have hfs54 := blk_frozen BK921.out 2
    have hs55 : w44.cell? ⟨gb921, 3, none⟩ = some (.int .i64 0) := (blk_cell BK921.out 3).trans rfl
    have hfs55 := blk_frozen BK921.out 3
    first | (generalize hW9_ : World.setCell _ _ _ = W9_; refine skip_ (w1 := ?_) (by rfl) rfl ?_ ?_ <;> subst hW9_) | refine skip_ (w1 := ?_) (by rfl) rfl ?_ ?_
    rotate_left
    ·go_simp
     rfl
    refine hK.out _ _ ⟨(by (with_reducible repeat (refine (cell_far (p := ⟨gb921, _, none⟩) NB938_921.out _).trans ?_)); exact hHeld.1), (by (with_reducible repeat (refine (cell_far (p := ⟨gb921, _, none⟩) NB938_921.out _).trans ?_)); exact hHeld.2.1), (by (with_reducible repeat (refine (cell_far (p := ⟨gb921, _, none⟩) NB938_921.out _).trans ?_)); exact hHeld.2.2.1), (by (with_reducible repeat (refine (cell_far (p := ⟨gb921, _, none⟩) NB938_921.out _).trans ?_)); exact hHeld.2.2.2.1), (by (with_reducible repeat (refine (cell_far (p := ⟨gb921, _, none⟩) NB938_921.out _).trans ?_)); exact hHeld.2.2.2.2.1), (by (with_reducible repeat (refine (cell_far (p := ⟨gb921, _, none⟩) NB938_921.out _).trans ?_)); exact hHeld.2.2.2.2.2.1), (by (with_reducible repeat (refine (cell_far (p := ⟨gb921, _, none⟩) NB938_921.out _).trans ?_)); exact hHeld.2.2.2.2.2.2.1), (by (with_reducible repeat (refine (cell_far (p := ⟨gb921, _, none⟩) NB939_921.out _).trans ?_)); exact hHeld.2.2.2.2.2.2.2.1), (by (with_reducible repeat (refine (cell_far (p := ⟨gb921, _, none⟩) NB939_921.out _).trans ?_)); exact hHeld.2.2.2.2.2.2.2.2.1), (by (with_reducible repeat (refine (cell_far (p := ⟨gb921, _, none⟩) NB939_921.out _).trans ?_)); exact hHeld.2.2.2.2.2.2.2.2.2.1), (by (with_reducible repeat (refine (cell_far (p := ⟨gb921, _, none⟩) NB939_921.out _).trans ?_)); exact hHeld.2.2.2.2.2.2.2.2.2.2)⟩ (fun hHeld => ?_)
    clear hK K
    refine pure_ (i := 4) (N := some 6) (v := ?_) (a' := ?_) #[true, true, true, true, true] rfl rfl (by kernel_rfl) (fun _ _ _ h => h) (Or.inl ⟨by rfl, ?_⟩) ?_ ?_
    rotate_left
    ·intro w'
     go_simp
     with_reducible rfl
    rotate_left
    ·simp only [Act.put, List.setIfInBounds_toArray, List.set_cons_zero, List.set_cons_succ, i64_w, i32_w]
     rfl
    refine done_ (by kernel_rfl) ?_
    try go_wp2
    refine bodyPost_ret (results_list (rs := [.cell 4 70, .cell 5 32, .tmp 6]) rfl (by simp) (.cell gb920 70 #[.slice Ao41 t943.length co41, .int .i64 t925, .int .i64 t926, .int .i64 t927, .int .i64 t928, .int .i64 t929, .slice Ao29 t930.length co29] (0, 0) _ rfl (by exact fB_ BK920) Try.underlying70 rfl (by kernel_rfl) (.cell gb921 32 #[.int .i64 t933, .int .i64 t934, .int .i64 t935, .int .i64 t936] (0, 0) _ rfl (by exact fB_ BK921) Try.underlying32 rfl (by kernel_rfl) (.tmp .nil)))) rfl ?_
    exact ⟨_, _, er_, by (with_reducible repeat first | apply ks1_ | apply ks2_ | apply ks3_); exact Kd.S_mono (sf4_ gb921 (sf7_ gb920 (Kd.S_types (Kd.S_types HO945.out BK920.out (by decide)) BK921.out (by decide)) (fun _ hk => hk.1.2)) (fun _ hk => hk.2)) (fun _ hk => trivial), by (with_reducible repeat first | apply kr1_ | apply kr2_ | apply kr3_); exact Kd.R_mono (rf4_ gb921 (rf7_ gb920 (Kd.R_types (Kd.R_types HO932.out BK920.out (by decide)) BK921.out (by decide)) (fun _ hk => hk.1.2)) (fun _ hk => hk.2)) (fun _ hk => trivial), by repeat (first | (with_reducible first | exact HB.out | apply below_alloc | apply pw_below_drewN | apply below_drew1 | refine below_set ?_ GE918.out | refine below_set ?_ GE919.out | refine below_set ?_ GE920.out | refine below_set ?_ GE921.out | refine below_set ?_ GE938.out | refine below_set ?_ GE939.out) | exact HB.out)⟩
   ·rw [if_neg c6] at H
    exact absurd H (by simp)
  ·rw [if_neg c5] at H
   exact absurd H (by simp)
 ·replace c4 := Bool.eq_false_iff.mpr c4
  subst c4
  rw [if_neg (show ¬ (false = true) by decide)] at H
  simp only [Option.some.injEq, Prod.mk.injEq] at H
  obtain ⟨rfl, rfl, rfl, rfl, rfl, rfl, rfl, rfl, rfl, rfl, rfl, rfl⟩ := H
  go_enter Try.func44, Try.ntmps44
  go_wp2_with (first | ((with_reducible refine gate_dst (N := 2) rfl ?_); refine box_event ?hg (N := 2) ?hd (cs := #[.slice A0_0 l0_0.length c0_0, .int .i64 a0_1, .int .i64 a0_2, .int .i64 a0_3, .int .i64 a0_4, .int .i64 a0_5, .slice A0_6 l0_6.length c0_6]) (t := 70) ?hr ?_; (case hd => rfl); (case hg => rfl); (case hr => exact gs_); intro gb918 hg w56 hbox hb; have BK918 := Aside0.mk (hbox); have GW918 := gE_ HB hg; have GE918 := gE_ HB hg; replace HB := Aside0.mk (below_step (by repeat (first | (with_reducible first | exact HB.out | apply ba_ | apply bn_ | apply bd_) | exact HB.out)) hb); clear hb hbox hg) | ((with_reducible refine gate_dst (N := 3) rfl ?_); refine box_event ?hg (N := 3) ?hd (cs := #[.int .i64 a1_0, .int .i64 a1_1]) (t := 74) ?hr ?_; (case hd => rfl); (case hg => rfl); (case hr => exact gs_); intro gb919 hg w57 hbox hb; have BK919 := Aside0.mk (hbox); have GW919 := gE_ HB hg; have GE919 := gE_ HB hg; replace HB := Aside0.mk (below_step (by repeat (first | (with_reducible first | exact HB.out | apply ba_ | apply bn_ | apply bd_ | refine bset_ ?_ (by assumption)) | exact HB.out)) hb); have NB918_919 := nB_ BK918 hg; have NB919_918 := nA_ BK918 hg; replace BK918 := bB_ BK918 hb; clear hb hbox hg) | ((with_reducible refine gate_dst (N := 4) rfl ?_); refine box_event ?hg (N := 4) ?hd (cs := #[.slice none 0 0, .int .i64 0, .int .i64 0, .int .i64 0, .int .i64 0, .int .i64 0, .slice none 0 0]) (t := 70) ?hr ?_; (case hd => rfl); (case hg => rfl); (case hr => exact gs_); intro gb920 hg w58 hbox hb; have BK920 := Aside0.mk (hbox); have GW920 := gE_ HB hg; have GE920 := gE_ HB hg; replace HB := Aside0.mk (below_step (by repeat (first | (with_reducible first | exact HB.out | apply ba_ | apply bn_ | apply bd_ | refine bset_ ?_ (by assumption)) | exact HB.out)) hb); have NB918_920 := nB_ BK918 hg; have NB920_918 := nA_ BK918 hg; replace BK918 := bB_ BK918 hb; have NB919_920 := nB_ BK919 hg; have NB920_919 := nA_ BK919 hg; replace BK919 := bB_ BK919 hb; clear hb hbox hg) | ((with_reducible refine gate_dst (N := 5) rfl ?_); refine box_event ?hg (N := 5) ?hd (cs := #[.int .i64 0, .int .i64 0, .int .i64 0, .int .i64 0]) (t := 32) ?hr ?_; (case hd => rfl); (case hg => rfl); (case hr => exact gs_); intro gb921 hg w59 hbox hb; have BK921 := Aside0.mk (hbox); have GW921 := gE_ HB hg; have GE921 := gE_ HB hg; replace HB := Aside0.mk (below_step (by repeat (first | (with_reducible first | exact HB.out | apply ba_ | apply bn_ | apply bd_ | refine bset_ ?_ (by assumption)) | exact HB.out)) hb); have NB918_921 := nB_ BK918 hg; have NB921_918 := nA_ BK918 hg; replace BK918 := bB_ BK918 hb; have NB919_921 := nB_ BK919 hg; have NB921_919 := nA_ BK919 hg; replace BK919 := bB_ BK919 hb; have NB920_921 := nB_ BK920 hg; have NB921_920 := nA_ BK920 hg; replace BK920 := bB_ BK920 hb; clear hb hbox hg; have hnb60 := NB918_919.out; have hnc60 := NB919_918.out; have hnb61 := NB918_920.out; have hnc61 := NB920_918.out; have hnb62 := NB918_921.out; have hnc62 := NB921_918.out; obtain ⟨hcz63_0, hcz63_1, hcz63_2, hcz63_3, hcz63_4, hcz63_5, hcz63_6, hfz63_0, hfz63_1, hfz63_2, hfz63_3, hfz63_4, hfz63_5, hfz63_6⟩ := zc7_ BK918; have hnb64 := NB919_920.out; have hnc64 := NB920_919.out; have hnb65 := NB919_921.out; have hnc65 := NB921_919.out; obtain ⟨hcz66_0, hcz66_1, hfz66_0, hfz66_1⟩ := zc2_ BK919) | ((with_reducible refine gate_callee (f := 36) rfl ?_); refine goesL_ (some 13) rfl rfl Try.func36 (by kernel_rfl) rfl #[.agg #[.slice A0_0 l0_0.length c0_0, .int .i64 a0_1, .int .i64 a0_2, .int .i64 a0_3, .int .i64 a0_4, .int .i64 a0_5, .slice A0_6 l0_6.length c0_6], .agg #[.int .i64 a1_0, .int .i64 a1_1]] rfl ar_ ?_; (with_reducible refine (spec_Give.calls k _ _ l0_0 a0_1 a0_2 a0_3 a0_4 a0_5 _ _ l0_6 a1_0 a1_1 t922 t925 t926 t927 t928 t929 t930 t933 t934 t935 t936 false _ ?side1 ?side2 ?side3 ?side4 A3.out).mono ?_); (case side1 => exact cS_ (Kd.C_below HR0_0.out HB.out)); (case side2 => exact HC0_0.out); (case side3 => exact cS_ (Kd.C_below HR0_6.out HB.out)); (case side4 => exact HC0_6.out); rintro e w67 ⟨v923, v931, rfl, ho0, ho1, hb⟩; refine ⟨_, rfl, ?_⟩; have HO924 := Aside0.mk (sL_ ho0 HB); have HO932 := Aside0.mk (rL_ ho1 HB); replace BK918 := bB_ BK918 hb; replace BK919 := bB_ BK919 hb; replace BK920 := bB_ BK920 hb; replace BK921 := bB_ BK921 hb; replace HB := Aside0.mk (below_step (by repeat (first | (with_reducible first | exact HB.out | apply ba_ | apply bn_ | apply bd_ | refine bset_ ?_ (by assumption)) | exact HB.out)) hb); (try clear hb); (try clear hb2); (try clear hk); (try clear hi); (try clear ho0); (try clear ho1)) | ((with_reducible refine gate_dst (N := 7) rfl ?_); refine box_event ?hg (N := 7) ?hd (cs := #[.slice none 0 0, .int .i64 0, .int .i64 0, .int .i64 0, .int .i64 0, .int .i64 0, .slice none 0 0]) (t := 70) ?hr ?_; (case hd => rfl); (case hg => rfl); (case hr => exact gs_); intro gb938 hg w68 hbox hb; replace HO924 := Aside0.mk (Kd.S_below (sK_ HO924) hb); replace HO932 := Aside0.mk (Kd.R_below (rK_ HO932) hb); have BK938 := Aside0.mk (hbox); have GW938 := gE_ HB hg; have GE938 := gE_ HB hg; replace HB := Aside0.mk (below_step (by repeat (first | (with_reducible first | exact HB.out | apply ba_ | apply bn_ | apply bd_ | refine bset_ ?_ (by assumption)) | exact HB.out)) hb); have NB918_938 := nB_ BK918 hg; have NB938_918 := nA_ BK918 hg; replace BK918 := bB_ BK918 hb; have NB919_938 := nB_ BK919 hg; have NB938_919 := nA_ BK919 hg; replace BK919 := bB_ BK919 hb; have NB920_938 := nB_ BK920 hg; have NB938_920 := nA_ BK920 hg; replace BK920 := bB_ BK920 hb; have NB921_938 := nB_ BK921 hg; have NB938_921 := nA_ BK921 hg; replace BK921 := bB_ BK921 hb; clear hb hbox hg) | ((with_reducible refine gate_dst (N := 8) rfl ?_); refine box_event ?hg (N := 8) ?hd (cs := #[.int .i64 0, .int .i64 0, .int .i64 0, .int .i64 0]) (t := 32) ?hr ?_; (case hd => rfl); (case hg => rfl); (case hr => exact gs_); intro gb939 hg w69 hbox hb; replace HO924 := Aside0.mk (Kd.S_below (sK_ HO924) hb); replace HO932 := Aside0.mk (Kd.R_below (rK_ HO932) hb); have BK939 := Aside0.mk (hbox); have GW939 := gE_ HB hg; have GE939 := gE_ HB hg; replace HB := Aside0.mk (below_step (by repeat (first | (with_reducible first | exact HB.out | apply ba_ | apply bn_ | apply bd_ | refine bset_ ?_ (by assumption)) | exact HB.out)) hb); have NB918_939 := nB_ BK918 hg; have NB939_918 := nA_ BK918 hg; replace BK918 := bB_ BK918 hb; have NB919_939 := nB_ BK919 hg; have NB939_919 := nA_ BK919 hg; replace BK919 := bB_ BK919 hb; have NB920_939 := nB_ BK920 hg; have NB939_920 := nA_ BK920 hg; replace BK920 := bB_ BK920 hb; have NB921_939 := nB_ BK921 hg; have NB939_921 := nA_ BK921 hg; replace BK921 := bB_ BK921 hb; have NB938_939 := nB_ BK938 hg; have NB939_938 := nA_ BK938 hg; replace BK938 := bB_ BK938 hb; clear hb hbox hg; obtain ⟨Ao70, co70, eo70⟩ := Kd.S_slice HO924.out; subst eo70; have hnb71 := NB938_918.out; have hnc71 := NB918_938.out; have hnb72 := NB938_919.out; have hnc72 := NB919_938.out; have hnb73 := NB938_920.out; have hnc73 := NB920_938.out; have hnb74 := NB938_921.out; have hnc74 := NB921_938.out; have hnb75 := NB938_939.out; have hnc75 := NB939_938.out; obtain ⟨hcz76_0, hcz76_1, hcz76_2, hcz76_3, hcz76_4, hcz76_5, hcz76_6, hfz76_0, hfz76_1, hfz76_2, hfz76_3, hfz76_4, hfz76_5, hfz76_6⟩ := zc7_ BK938; obtain ⟨Ao77, co77, eo77⟩ := Kd.R_slice HO932.out; subst eo77; have hnb78 := NB939_918.out; have hnc78 := NB918_939.out; have hnb79 := NB939_919.out; have hnc79 := NB919_939.out; have hnb80 := NB939_920.out; have hnc80 := NB920_939.out; have hnb81 := NB939_921.out; have hnc81 := NB921_939.out; obtain ⟨hcz82_0, hcz82_1, hcz82_2, hcz82_3, hfz82_0, hfz82_1, hfz82_2, hfz82_3⟩ := zc4_ BK939; have hnb83 := NB920_921.out; have hnc83 := NB921_920.out; obtain ⟨hcz84_0, hcz84_1, hcz84_2, hcz84_3, hcz84_4, hcz84_5, hcz84_6, hfz84_0, hfz84_1, hfz84_2, hfz84_3, hfz84_4, hfz84_5, hfz84_6⟩ := zc7_ BK920; obtain ⟨hcz85_0, hcz85_1, hcz85_2, hcz85_3, hfz85_0, hfz85_1, hfz85_2, hfz85_3⟩ := zc4_ BK921))
  refine bodyPost_ret (results_list (rs := [.cell 4 70, .cell 5 32, .tmp 6]) rfl (by simp) (.cell gb920 70 #[.slice none 0 0, .int .i64 0, .int .i64 0, .int .i64 0, .int .i64 0, .int .i64 0, .slice none 0 0] (0, 0) _ rfl (by exact fB_ BK920) Try.underlying70 rfl (by kernel_rfl) (.cell gb921 32 #[.int .i64 0, .int .i64 0, .int .i64 0, .int .i64 0] (0, 0) _ rfl (by exact fB_ BK921) Try.underlying32 rfl (by kernel_rfl) (.tmp .nil)))) rfl ?_
  exact ⟨_, _, er_, by first | exact Kd.S_nil _ _ _ _ _ | exact Kd.N_nil _ _ _ _ _ | exact Kd.V_nil _ _ _ _ _ | exact Kd.Q_nil _ _ _ _ _ | exact Kd.R_nil _ _ _ _ _, by first | exact Kd.R_nil _ _ _ _ _ | exact Kd.N_nil _ _ _ _ _ | exact Kd.V_nil _ _ _ _ _ | exact Kd.Q_nil _ _ _ _ _ | exact Kd.S_nil _ _ _ _ _, by repeat (first | (with_reducible first | exact HB.out | apply below_alloc | apply pw_below_drewN | apply below_drew1 | refine below_set ?_ GE918.out | refine below_set ?_ GE919.out | refine below_set ?_ GE920.out | refine below_set ?_ GE921.out | refine below_set ?_ GE938.out | refine below_set ?_ GE939.out) | exact HB.out)⟩
end Go.Proofs.Ytmkcbbbknbahgaa.P
namespace Go.Proofs.Ytmkcbbbknbahgaa.P
open Go.RowKit Go.Proofs.YtmkcbbbknbahgaaW.PrintWords Go.Proofs.YtmkcbbbknbahgaaW.PrintLast Go.Proofs.YtmkcbbbknbahgaaW.PrintMore
set_option linter.unusedVariables false
set_option linter.unusedSimpArgs false

theorem grown_set_ {w W : World} {g : Nat} (h : w.grownBy W (some g)) (j : Nat) (u : Value) : w.grownBy (W.setCell ⟨g, j, none⟩ u) (some g) :=
  ⟨h.os, h.tape, h.output, by have := h.size; simpa [World.setCell] using this, fun k hk hn => (Below.heap_setCell _ _ _ k (fun e => hn (congrArg some e))).trans (h.block k hk hn)⟩

theorem below_grown_ {w W W' : World} {g : Nat} (hb : Below w.heap.size w W) (h : W.grownBy W' (some g)) (hg : w.heap.size ≤ g) : Below w.heap.size w W' := hb.grown h (below_size hb) (fun k hk => by cases hk; exact hg)

theorem Blk_ne {w : World} {g g' t t' : Nat} {c c' : Array Value} (h : w.heap[g]? = some (.cells c t (0, 0))) (h' : w.heap[g']? = some (.cells c' t' (0, 0))) (hd : (t == t') = false) (e : g = g') : False := by
  subst e
  rw [h] at h'
  injection h' with h'
  injection h' with _ h'
  subst h'
  simp at hd

theorem Ty_not {w : World} {E : List Nat} {k T : Nat} {cs : Array Value} (h : Ty w E k) (hb : w.heap[k]? = some (.cells cs T (0, 0))) (hd : E.contains T = false) : False := by
  obtain ⟨q, hq, c, hc⟩ := h
  rw [hb] at hc
  injection hc with hc
  injection hc with _ hc
  subst hc
  rw [List.contains_iff_mem.2 hq] at hd
  cases hd

def FnExactGiveZero.T5 : Bool × List (List Nat × List Nat) := (true, [([], []), ([0], [0]), ([], []), ([2, 1], [2]), ([1, 3, 3], [1, 3]), ([4], [4]), ([5], [5]), ([5], [5]), ([5], [5]), ([], []), ([], []), ([9, 6, 4, 0, 1, 2, 3, 4, 5, 6, 9, 10], [6, 9]), ([10, 7, 11, 0, 1, 2, 3, 4, 5, 6, 7, 9, 10, 11], [7, 10]), ([8, 12, 0, 1, 2, 3, 4, 5, 6, 7, 8, 9, 10, 11, 12], [8])])

def FnExactGiveZero.B5 : List Nat := [0, 1, 0, 7, 15, 31, 63, 63, 63, 0, 0, 1663, 3839, 8191]

theorem FnExactGiveZero.tab5 : rtab .any (opsOf Try.f7 5) = FnExactGiveZero.T5 := by kernel_rfl

theorem FnExactGiveZero.bits5 : waitsOk FnExactGiveZero.T5.2 FnExactGiveZero.B5 = true := by kernel_rfl

def FnExactGiveZero.T7 : Bool × List (List Nat × List Nat) := (true, [([], []), ([], []), ([1], [1]), ([0, 2, 2], [0, 2]), ([3], [3]), ([4], [4]), ([4], [4]), ([4], [4]), ([], []), ([], []), ([8, 5, 3, 0, 1, 2, 3, 4, 5, 8, 9], [5, 8]), ([9, 6, 10, 0, 1, 2, 3, 4, 5, 6, 8, 9, 10], [6, 9]), ([7, 11, 0, 1, 2, 3, 4, 5, 6, 7, 8, 9, 10, 11], [7])])

def FnExactGiveZero.B7 : List Nat := [0, 0, 2, 7, 15, 31, 31, 31, 0, 0, 831, 1919, 4095]

theorem FnExactGiveZero.tab7 : rtab .any (opsOf Try.f7 7) = FnExactGiveZero.T7 := by kernel_rfl

theorem FnExactGiveZero.bits7 : waitsOk FnExactGiveZero.T7.2 FnExactGiveZero.B7 = true := by kernel_rfl

def FnExactGiveZero.T24 : Bool × List (List Nat × List Nat) := (true, [([], []), ([0], [0]), ([], []), ([2, 1], [2]), ([1, 3, 3], [1, 3]), ([4], [4]), ([5], [5]), ([5], [5]), ([5], [5]), ([], []), ([], []), ([9, 6, 4, 0, 1, 2, 3, 4, 5, 6, 9, 10], [6, 9]), ([10, 7, 11, 0, 1, 2, 3, 4, 5, 6, 7, 9, 10, 11], [7, 10]), ([8, 12, 0, 1, 2, 3, 4, 5, 6, 7, 8, 9, 10, 11, 12], [8])])

def FnExactGiveZero.B24 : List Nat := [0, 1, 0, 7, 15, 31, 63, 63, 63, 0, 0, 1663, 3839, 8191]

theorem FnExactGiveZero.tab24 : rtab .any (opsOf Try.f7 24) = FnExactGiveZero.T24 := by kernel_rfl

theorem FnExactGiveZero.bits24 : waitsOk FnExactGiveZero.T24.2 FnExactGiveZero.B24 = true := by kernel_rfl

set_option maxHeartbeats 8000000 in
set_option maxRecDepth 100000 in
theorem FnExactGiveZero.walk (k : Nat) (A0_0 : Option Addr) (c0_0 : Nat) (l0_0 : List (List Int)) (a0_1 : Int) (a0_2 : Int) (a0_3 : Int) (a0_4 : Int) (a0_5 : Int) (A0_6 : Option Addr) (c0_6 : Nat) (l0_6 : List Int) (a1_0 : Int) (a1_1 : Int) (r8 : Int) (r14 : List (List Int)) (r15 : Int) (r16 : Int) (r17 : Int) (r18 : Int) (r19 : Int) (r20 : List Int) (r24 : Int) (r25 : Int) (r27 : List (List Int)) (r28 : Int) (r29 : Int) (r30 : Int) (r31 : Int) (r32 : Int) (r33 : List Int) (r34 : Int) (r35 : Int) (r36 : Int) (r37 : Int) (r38 : Bool) (m149 : Int) (x150 : List (List Int)) (x151 : List Int) (m199 : Int) (x200 : List (List Int)) (x201 : List Int) (w : World) (HR0_0 : Kd.C (Kd.slice 5 (Kd.int .u8)) w A0_0 l0_0.length l0_0) (HC0_0 : l0_0.length ≤ c0_0) (HR0_6 : Kd.C (Kd.int .i64) w A0_6 l0_6.length l0_6) (HC0_6 : l0_6.length ≤ c0_6) (e9 : laws_szArena.f k l0_0 a0_1 a0_2 a0_3 a0_4 a0_5 l0_6 1048576 = some r8) (n_r8 : ¬ r8 < 0) (e21 : laws_toArena.f k l0_0 a0_1 a0_2 a0_3 a0_4 a0_5 l0_6 = some (r14, r15, r16, r17, r18, r19, r20)) (e26 : laws_toAsked.f a1_0 a1_1 = some (r24, r25)) (e39 : spec_GiveZero.f k r14 r15 r16 r17 r18 r19 r20 r24 r25 = some (r27, r28, r29, r30, r31, r32, r33, r34, r35, r36, r37, r38)) (e78 : impl_GiveZero.f k r14 r15 r16 r17 r18 r19 r20 r24 r25 = some (r27, r28, r29, r30, r31, r32, r33, r34, r35, r36, r37, r38)) (e112 : laws_eqArena.f k r27 r28 r29 r30 r31 r32 r33 r27 r28 r29 r30 r31 r32 r33 = some true) (e125 : laws_eqWindow.f r34 r35 r36 r37 r34 r35 r36 r37 = some true) (e138 : laws_eqArena.f k r14 r15 r16 r17 r18 r19 r20 r14 r15 r16 r17 r18 r19 r20 = some true) (e152 : laws_markArena.f k r14 r20 1 = some (m149, x150, x151)) (n_m149 : ¬ m149 < 0) (e202 : laws_markArena.f k r27 r33 1 = some (m199, x200, x201)) (e217 : laws_heldArena.f k x200 r28 r29 r30 r31 r32 x201 1 = some m199) (n_m199 : ¬ m199 < 0) :
    Calls Try.prog 7 #[.agg #[.slice A0_0 l0_0.length c0_0, .int .i64 a0_1, .int .i64 a0_2, .int .i64 a0_3, .int .i64 a0_4, .int .i64 a0_5, .slice A0_6 l0_6.length c0_6], .agg #[.int .i64 a1_0, .int .i64 a1_1]] w fun e w' => e = .returned (.bool true) ∧ Below w.heap.size w w' := by
  have hu32 := Try.underlying32
  have hu65 := Try.underlying65
  have hu67 := Try.underlying67
  have hu70 := Try.underlying70
  replace HR0_0 := Aside0.mk HR0_0
  replace HC0_0 := Aside0.mk HC0_0
  replace HR0_6 := Aside0.mk HR0_6
  replace HC0_6 := Aside0.mk HC0_6
  replace e9 := Aside0.mk e9
  replace n_r8 := decide_eq_false n_r8
  replace e21 := Aside0.mk e21
  replace e26 := Aside0.mk e26
  replace e39 := Aside0.mk e39
  replace e78 := Aside0.mk e78
  replace e112 := Aside0.mk e112
  replace e125 := Aside0.mk e125
  replace e138 := Aside0.mk e138
  replace e152 := Aside0.mk e152
  replace n_m149 := decide_eq_false n_m149
  replace e202 := Aside0.mk e202
  replace e217 := Aside0.mk e217
  replace n_m199 := decide_eq_false n_m199
  have HB := Aside0.mk (Below.refl w.heap.size w)
  go_enter Try.func7, Try.ntmps7
  go_wp2_with fail
  have HA3 := Below.alloc (Below.refl w.heap.size w) (Nat.le_refl _) (.cells #[.slice A0_0 l0_0.length c0_0, .int .i64 a0_1, .int .i64 a0_2, .int .i64 a0_3, .int .i64 a0_4, .int .i64 a0_5, .slice A0_6 l0_6.length c0_6] 65)
  have BK1 := Aside0.mk (heap_alloc_new w (.cells #[.slice A0_0 l0_0.length c0_0, .int .i64 a0_1, .int .i64 a0_2, .int .i64 a0_3, .int .i64 a0_4, .int .i64 a0_5, .slice A0_6 l0_6.length c0_6] 65))
  replace HB := Aside0.mk (below_step HB.out HA3)
  have Z4 := Aside0.mk (show w.heap.size < (w.alloc (.cells #[.slice A0_0 l0_0.length c0_0, .int .i64 a0_1, .int .i64 a0_2, .int .i64 a0_3, .int .i64 a0_4, .int .i64 a0_5, .slice A0_6 l0_6.length c0_6] 65)).heap.size by simp)
  clear HA3
  have HA5 := Below.alloc (Below.refl (w.alloc (.cells #[.slice A0_0 l0_0.length c0_0, .int .i64 a0_1, .int .i64 a0_2, .int .i64 a0_3, .int .i64 a0_4, .int .i64 a0_5, .slice A0_6 l0_6.length c0_6] 65)).heap.size (w.alloc (.cells #[.slice A0_0 l0_0.length c0_0, .int .i64 a0_1, .int .i64 a0_2, .int .i64 a0_3, .int .i64 a0_4, .int .i64 a0_5, .slice A0_6 l0_6.length c0_6] 65))) (Nat.le_refl _) (.cells #[.int .i64 a1_0, .int .i64 a1_1] 67)
  replace BK1 := Aside0.mk (blk_below BK1.out HA5)
  have BK2 := Aside0.mk (heap_alloc_new (w.alloc (.cells #[.slice A0_0 l0_0.length c0_0, .int .i64 a0_1, .int .i64 a0_2, .int .i64 a0_3, .int .i64 a0_4, .int .i64 a0_5, .slice A0_6 l0_6.length c0_6] 65)) (.cells #[.int .i64 a1_0, .int .i64 a1_1] 67))
  replace HB := Aside0.mk (below_step HB.out HA5)
  have Z6 := Aside0.mk (show (w.alloc (.cells #[.slice A0_0 l0_0.length c0_0, .int .i64 a0_1, .int .i64 a0_2, .int .i64 a0_3, .int .i64 a0_4, .int .i64 a0_5, .slice A0_6 l0_6.length c0_6] 65)).heap.size < ((w.alloc (.cells #[.slice A0_0 l0_0.length c0_0, .int .i64 a0_1, .int .i64 a0_2, .int .i64 a0_3, .int .i64 a0_4, .int .i64 a0_5, .slice A0_6 l0_6.length c0_6] 65)).alloc (.cells #[.int .i64 a1_0, .int .i64 a1_1] 67)).heap.size by simp)
  clear HA5
  refine (laws_szArena.calls k A0_0 c0_0 l0_0 a0_1 a0_2 a0_3 a0_4 a0_5 A0_6 c0_6 l0_6 1048576 r8 ((w.alloc (.cells #[.slice A0_0 l0_0.length c0_0, .int .i64 a0_1, .int .i64 a0_2, .int .i64 a0_3, .int .i64 a0_4, .int .i64 a0_5, .slice A0_6 l0_6.length c0_6] 65)).alloc (.cells #[.int .i64 a1_0, .int .i64 a1_1] 67)) (Kd.C_below HR0_0.out HB.out) HC0_0.out (Kd.C_below HR0_6.out HB.out) HC0_6.out e9.out).mono ?_
  rintro e w7 ⟨rfl, hb⟩
  replace BK1 := Aside0.mk (blk_below BK1.out hb)
  replace BK2 := Aside0.mk (blk_below BK2.out hb)
  have Z10 := Aside0.mk (below_size hb)
  replace HB := Aside0.mk (below_step HB.out hb)
  clear hb 
  go_wp2_with fail
  refine start_ (n := 14) (S := fun w' => True) (ds := []) #[false, false, false, false, false, false, false, false, false, false, false, false, false, false] (by kernel_rfl) rfl rfl trivial (fun hHeld => ?_)
  refine with_tabW FnExactGiveZero.tab5 FnExactGiveZero.bits5 (fun HT_ HW_ => ?_)
  replace BK1 := Aside0.mk (blk_drew BK1.out)
  replace BK2 := Aside0.mk (blk_drew BK2.out)
  replace HB := Aside0.mk (below_drew1 HB.out)
  have Z12 := Aside0.mk (show w7.heap.size ≤ w7.drew.heap.size from Nat.le_refl _)
  generalize w7.drew = w11 at BK1 BK2 HB Z12 hHeld ⊢
  clear hHeld
  have HD13 := Aside0.mk (Below.refl w11.heap.size w11)
  replace BK2 := Aside0.mk (show w11.heap[w.heap.size + 1]? = some (.cells #[.int .i64 a1_0, .int .i64 a1_1] 67 (0, 0)) from by have h_ := BK2.out; rwa [show (w.alloc (.cells #[.slice A0_0 l0_0.length c0_0, .int .i64 a0_1, .int .i64 a0_2, .int .i64 a0_3, .int .i64 a0_4, .int .i64 a0_5, .slice A0_6 l0_6.length c0_6] 65)).heap.size = w.heap.size + 1 by simp] at h_)
  refine inv_at [0, 1, 2, 3, 4, 5, 6, 7, 8, 9, 10, 11, 12, 13] (fun a0_ b a w' => ∃ (A5r1_0_ : Option Addr) (c5r1_0_ : Nat) (A5r1_6_ : Option Addr) (c5r1_6_ : Nat) (A5r4_0_ : Option Addr) (c5r4_0_ : Nat) (A5r4_6_ : Option Addr) (c5r4_6_ : Nat) (g5r9_ : Nat) (g5r10_ : Nat) (m1_ : Value) (m4_ : Value) (m5_ : Value) (m6_ : Value) (m9_ : Value) (m10_ : Value), a = putSel a0_ b [(0, 25, .agg #[.slice A0_0 l0_0.length c0_0, .int .i64 a0_1, .int .i64 a0_2, .int .i64 a0_3, .int .i64 a0_4, .int .i64 a0_5, .slice A0_6 l0_6.length c0_6]), (1, 26, m1_), (2, 27, .agg #[.int .i64 a1_0, .int .i64 a1_1]), (3, 28, .agg #[.int .i64 r24, .int .i64 r25]), (4, 29, m4_), (5, 24, m5_), (6, 30, m6_), (7, 31, .agg #[.int .i64 r34, .int .i64 r35, .int .i64 r36, .int .i64 r37]), (8, 32, .bool r38), (9, 6, m9_), (10, 7, m10_), (13, 8, .bool r38)] ∧ (Below w11.heap.size w11 w') ∧ (b 1 = true → b 4 = false → Kd.S (Kd.slice 5 (Kd.int .u8)) 29 w' w11.heap.size (fun _ => True) (.slice A5r1_0_ r14.length c5r1_0_) r14) ∧ (b 1 = true → b 4 = false → Kd.R (Kd.int .i64) 3 w' w11.heap.size (fun _ => True) (.slice A5r1_6_ r20.length c5r1_6_) r20) ∧ (b 4 = true → Kd.S (Kd.slice 5 (Kd.int .u8)) 29 w' w11.heap.size (fun _ => True) (.slice A5r4_0_ r27.length c5r4_0_) r27) ∧ (b 4 = true → Kd.R (Kd.int .i64) 3 w' w11.heap.size (fun _ => True) (.slice A5r4_6_ r33.length c5r4_6_) r33) ∧ (b 9 = true → b 11 = false → w'.heap[g5r9_]? = some (.cells #[.slice none 0 0, .int .i64 0, .int .i64 0, .int .i64 0, .int .i64 0, .int .i64 0, .slice none 0 0] 70 (0, 0))) ∧ (b 9 = true → w11.heap.size ≤ g5r9_) ∧ (b 10 = true → b 12 = false → w'.heap[g5r10_]? = some (.cells #[.int .i64 0, .int .i64 0, .int .i64 0, .int .i64 0] 32 (0, 0))) ∧ (b 10 = true → w11.heap.size ≤ g5r10_) ∧ (b 9 = true → b 11 = true → w'.heap[g5r9_]? = some (.cells #[.slice A5r4_0_ r27.length c5r4_0_, .int .i64 r28, .int .i64 r29, .int .i64 r30, .int .i64 r31, .int .i64 r32, .slice A5r4_6_ r33.length c5r4_6_] 70 (0, 0))) ∧ (b 10 = true → b 12 = true → w'.heap[g5r10_]? = some (.cells #[.int .i64 r34, .int .i64 r35, .int .i64 r36, .int .i64 r37] 32 (0, 0))) ∧ (b 1 = true → (m1_ : Value) = .agg #[.slice A5r1_0_ r14.length c5r1_0_, .int .i64 r15, .int .i64 r16, .int .i64 r17, .int .i64 r18, .int .i64 r19, .slice A5r1_6_ r20.length c5r1_6_]) ∧ (b 4 = true → (m4_ : Value) = .tuple #[.agg #[.slice A5r4_0_ r27.length c5r4_0_, .int .i64 r28, .int .i64 r29, .int .i64 r30, .int .i64 r31, .int .i64 r32, .slice A5r4_6_ r33.length c5r4_6_], .agg #[.int .i64 r34, .int .i64 r35, .int .i64 r36, .int .i64 r37], .bool r38]) ∧ (b 5 = true → (m5_ : Value) = .tuple #[.agg #[.slice A5r4_0_ r27.length c5r4_0_, .int .i64 r28, .int .i64 r29, .int .i64 r30, .int .i64 r31, .int .i64 r32, .slice A5r4_6_ r33.length c5r4_6_], .agg #[.int .i64 r34, .int .i64 r35, .int .i64 r36, .int .i64 r37], .bool r38]) ∧ (b 6 = true → (m6_ : Value) = .agg #[.slice A5r4_0_ r27.length c5r4_0_, .int .i64 r28, .int .i64 r29, .int .i64 r30, .int .i64 r31, .int .i64 r32, .slice A5r4_6_ r33.length c5r4_6_]) ∧ (b 9 = true → (m9_ : Value) = .pointer (some ⟨g5r9_, 0, none⟩)) ∧ (b 10 = true → (m10_ : Value) = .pointer (some ⟨g5r10_, 0, none⟩))) HT_.out HW_.out (by kernel_rfl) (by kernel_rfl) ?_ ?_ ?_
  · exact ⟨none, 0, none, 0, none, 0, none, 0, 0, 0, .bool false, .bool false, .bool false, .bool false, .bool false, .bool false, by simp only [putSel, Bool.false_eq_true, if_false], HD13.out, fun h_ => absurd h_ (by decide), fun h_ => absurd h_ (by decide), fun h_ => absurd h_ (by decide), fun h_ => absurd h_ (by decide), fun h_ => absurd h_ (by decide), fun h_ => absurd h_ (by decide), fun h_ => absurd h_ (by decide), fun h_ => absurd h_ (by decide), fun h_ => absurd h_ (by decide), fun h_ => absurd h_ (by decide), fun h_ => absurd h_ (by decide), fun h_ => absurd h_ (by decide), fun h_ => absurd h_ (by decide), fun h_ => absurd h_ (by decide), fun h_ => absurd h_ (by decide), fun h_ => absurd h_ (by decide)⟩
  · skip
    clear HD13
    refine steps_cons ?_ ?_
    · rintro b a w' ⟨A5r1_0_, c5r1_0_, A5r1_6_, c5r1_6_, A5r4_0_, c5r4_0_, A5r4_6_, c5r4_6_, g5r9_, g5r10_, m1_, m4_, m5_, m6_, m9_, m10_, ha, Q_HD13, Q_O22, Q_O23, Q_O40, Q_O41, Q_BZ42, Q_Z44, Q_BZ45, Q_Z47, Q_BK43, Q_BK46, Q_X1_, Q_X4_, Q_X5_, Q_X6_, Q_X9_, Q_X10_⟩ hb_ hon hoff
      refine ⟨_, rfl, fun K hK => ?_⟩
      have e2 : a.tmps[2]? = some (.pointer (some ⟨w.heap.size, 0, none⟩)) := by rw [ha]; exact (putSel_off rfl).trans rfl
      replace ha := Aside0.mk ha
      have HD13 := Aside0.mk Q_HD13
      have hc0_ : w'.cell? ⟨w.heap.size, 0, none⟩ = some (.slice A0_0 l0_0.length c0_0) := (blk_cell (blk_below BK1.out HD13.out) 0).trans rfl
      have hc1_ : w'.cell? ⟨w.heap.size, 1, none⟩ = some (.int .i64 a0_1) := (blk_cell (blk_below BK1.out HD13.out) 1).trans rfl
      have hc2_ : w'.cell? ⟨w.heap.size, 2, none⟩ = some (.int .i64 a0_2) := (blk_cell (blk_below BK1.out HD13.out) 2).trans rfl
      have hc3_ : w'.cell? ⟨w.heap.size, 3, none⟩ = some (.int .i64 a0_3) := (blk_cell (blk_below BK1.out HD13.out) 3).trans rfl
      have hc4_ : w'.cell? ⟨w.heap.size, 4, none⟩ = some (.int .i64 a0_4) := (blk_cell (blk_below BK1.out HD13.out) 4).trans rfl
      have hc5_ : w'.cell? ⟨w.heap.size, 5, none⟩ = some (.int .i64 a0_5) := (blk_cell (blk_below BK1.out HD13.out) 5).trans rfl
      have hc6_ : w'.cell? ⟨w.heap.size, 6, none⟩ = some (.slice A0_6 l0_6.length c0_6) := (blk_cell (blk_below BK1.out HD13.out) 6).trans rfl
      refine value_ (w1 := w') (v := .agg #[.slice A0_0 l0_0.length c0_0, .int .i64 a0_1, .int .i64 a0_2, .int .i64 a0_3, .int .i64 a0_4, .int .i64 a0_5, .slice A0_6 l0_6.length c0_6]) (by rfl) rfl ?_ ?_
      · go_simp
        (try simp only [i64_w])
        try rfl
      refine hK.out _ _ ⟨A5r1_0_, c5r1_0_, A5r1_6_, c5r1_6_, A5r4_0_, c5r4_0_, A5r4_6_, c5r4_6_, g5r9_, g5r10_, m1_, m4_, m5_, m6_, m9_, m10_, (by rw [ha.out]; exact putSel_upk 0 hb_ rfl rfl rfl), Q_HD13, fun h0_ _ => absurd ((hoff 1 (by kernel_rfl)).symm.trans h0_) (by decide), fun h0_ _ => absurd ((hoff 1 (by kernel_rfl)).symm.trans h0_) (by decide), fun h0_ => absurd ((hoff 4 (by kernel_rfl)).symm.trans h0_) (by decide), fun h0_ => absurd ((hoff 4 (by kernel_rfl)).symm.trans h0_) (by decide), Q_BZ42, Q_Z44, Q_BZ45, Q_Z47, fun _ h1_ => absurd ((hoff 11 (by kernel_rfl)).symm.trans h1_) (by decide), fun _ h1_ => absurd ((hoff 12 (by kernel_rfl)).symm.trans h1_) (by decide), fun h0_ => absurd ((hoff 1 (by kernel_rfl)).symm.trans h0_) (by decide), fun h0_ => absurd ((hoff 4 (by kernel_rfl)).symm.trans h0_) (by decide), fun h0_ => absurd ((hoff 5 (by kernel_rfl)).symm.trans h0_) (by decide), fun h0_ => absurd ((hoff 6 (by kernel_rfl)).symm.trans h0_) (by decide), Q_X9_, Q_X10_⟩
    refine steps_cons ?_ ?_
    · rintro b a w' ⟨A5r1_0_, c5r1_0_, A5r1_6_, c5r1_6_, A5r4_0_, c5r4_0_, A5r4_6_, c5r4_6_, g5r9_, g5r10_, m1_, m4_, m5_, m6_, m9_, m10_, ha, Q_HD13, Q_O22, Q_O23, Q_O40, Q_O41, Q_BZ42, Q_Z44, Q_BZ45, Q_Z47, Q_BK43, Q_BK46, Q_X1_, Q_X4_, Q_X5_, Q_X6_, Q_X9_, Q_X10_⟩ hb_ hon hoff
      refine ⟨_, rfl, fun K hK => ?_⟩
      have e25 : a.tmps[25]? = some (.agg #[.slice A0_0 l0_0.length c0_0, .int .i64 a0_1, .int .i64 a0_2, .int .i64 a0_3, .int .i64 a0_4, .int .i64 a0_5, .slice A0_6 l0_6.length c0_6]) := by rw [ha]; exact putSel_on (e := (0, 25, .agg #[.slice A0_0 l0_0.length c0_0, .int .i64 a0_1, .int .i64 a0_2, .int .i64 a0_3, .int .i64 a0_4, .int .i64 a0_5, .slice A0_6 l0_6.length c0_6])) 0 rfl rfl (hon 0 (by kernel_rfl)) rfl
      replace ha := Aside0.mk ha
      have HD13 := Aside0.mk Q_HD13
      refine goes_ Try.func37 (by kernel_rfl) rfl #[.agg #[.slice A0_0 l0_0.length c0_0, .int .i64 a0_1, .int .i64 a0_2, .int .i64 a0_3, .int .i64 a0_4, .int .i64 a0_5, .slice A0_6 l0_6.length c0_6]] (by rfl) rfl rfl (by first | (simp only [List.map_toArray, List.map_cons, List.map_nil, Act.eval, Array.getD_eq_getD_getElem?, Option.getD_some, e25]; done) | (simp only [List.map_toArray, List.map_cons, List.map_nil, Act.eval, Array.getD_eq_getD_getElem?, Option.getD_some, e25]; rfl)) ?_
      with_reducible refine (laws_toArena.calls k A0_0 c0_0 l0_0 a0_1 a0_2 a0_3 a0_4 a0_5 A0_6 c0_6 l0_6 r14 r15 r16 r17 r18 r19 r20 w' (Kd.C_below (Kd.C_below HR0_0.out HB.out) HD13.out) HC0_0.out (Kd.C_below (Kd.C_below HR0_6.out HB.out) HD13.out) HC0_6.out e21.out).mono ?_
      rintro e wn1_ ⟨v1_0, v1_6, rfl, h1_0, h1_6, hb⟩
      refine ⟨_, rfl, ?_⟩
      obtain ⟨A5r1_0_n, c5r1_0_n, rfl⟩ := Kd.S_slice h1_0
      obtain ⟨A5r1_6_n, c5r1_6_n, rfl⟩ := Kd.R_slice h1_6
      refine hK.out _ _ ⟨A5r1_0_n, c5r1_0_n, A5r1_6_n, c5r1_6_n, A5r4_0_, c5r4_0_, A5r4_6_, c5r4_6_, g5r9_, g5r10_, (.agg #[.slice A5r1_0_n r14.length c5r1_0_n, .int .i64 r15, .int .i64 r16, .int .i64 r17, .int .i64 r18, .int .i64 r19, .slice A5r1_6_n r20.length c5r1_6_n]), m4_, m5_, m6_, m9_, m10_, (by rw [ha.out]; exact putSel_upk 1 hb_ rfl rfl rfl), below_step HD13.out hb, fun _ _ => Kd.S_lower (Kd.S_mono (Kd.S_bound h1_0) (fun k_ hk => trivial)) (below_size HD13.out), fun _ _ => Kd.R_lower (Kd.R_mono (Kd.R_bound h1_6) (fun k_ hk => trivial)) (below_size HD13.out), fun h0_ => absurd ((hoff 4 (by kernel_rfl)).symm.trans h0_) (by decide), fun h0_ => absurd ((hoff 4 (by kernel_rfl)).symm.trans h0_) (by decide), fun h0_ h1_ => blk_below (Q_BZ42 h0_ h1_) hb, Q_Z44, fun h0_ h1_ => blk_below (Q_BZ45 h0_ h1_) hb, Q_Z47, fun _ h1_ => absurd ((hoff 11 (by kernel_rfl)).symm.trans h1_) (by decide), fun _ h1_ => absurd ((hoff 12 (by kernel_rfl)).symm.trans h1_) (by decide), fun _ => rfl, fun h0_ => absurd ((hoff 4 (by kernel_rfl)).symm.trans h0_) (by decide), fun h0_ => absurd ((hoff 5 (by kernel_rfl)).symm.trans h0_) (by decide), fun h0_ => absurd ((hoff 6 (by kernel_rfl)).symm.trans h0_) (by decide), Q_X9_, Q_X10_⟩
    refine steps_cons ?_ ?_
    · rintro b a w' ⟨A5r1_0_, c5r1_0_, A5r1_6_, c5r1_6_, A5r4_0_, c5r4_0_, A5r4_6_, c5r4_6_, g5r9_, g5r10_, m1_, m4_, m5_, m6_, m9_, m10_, ha, Q_HD13, Q_O22, Q_O23, Q_O40, Q_O41, Q_BZ42, Q_Z44, Q_BZ45, Q_Z47, Q_BK43, Q_BK46, Q_X1_, Q_X4_, Q_X5_, Q_X6_, Q_X9_, Q_X10_⟩ hb_ hon hoff
      refine ⟨_, rfl, fun K hK => ?_⟩
      have e3 : a.tmps[3]? = some (.pointer (some ⟨w.heap.size + 1, 0, none⟩)) := by rw [ha]; exact (putSel_off rfl).trans rfl
      replace ha := Aside0.mk ha
      have HD13 := Aside0.mk Q_HD13
      have hc0_ : w'.cell? ⟨w.heap.size + 1, 0, none⟩ = some (.int .i64 a1_0) := (blk_cell (blk_below BK2.out HD13.out) 0).trans rfl
      have hc1_ : w'.cell? ⟨w.heap.size + 1, 1, none⟩ = some (.int .i64 a1_1) := (blk_cell (blk_below BK2.out HD13.out) 1).trans rfl
      refine value_ (w1 := w') (v := .agg #[.int .i64 a1_0, .int .i64 a1_1]) (by rfl) rfl ?_ ?_
      · go_simp
        (try simp only [i64_w])
        try rfl
      refine hK.out _ _ ⟨A5r1_0_, c5r1_0_, A5r1_6_, c5r1_6_, A5r4_0_, c5r4_0_, A5r4_6_, c5r4_6_, g5r9_, g5r10_, m1_, m4_, m5_, m6_, m9_, m10_, (by rw [ha.out]; exact putSel_upk 2 hb_ rfl rfl rfl), Q_HD13, Q_O22, Q_O23, fun h0_ => absurd ((hoff 4 (by kernel_rfl)).symm.trans h0_) (by decide), fun h0_ => absurd ((hoff 4 (by kernel_rfl)).symm.trans h0_) (by decide), Q_BZ42, Q_Z44, Q_BZ45, Q_Z47, fun _ h1_ => absurd ((hoff 11 (by kernel_rfl)).symm.trans h1_) (by decide), fun _ h1_ => absurd ((hoff 12 (by kernel_rfl)).symm.trans h1_) (by decide), Q_X1_, fun h0_ => absurd ((hoff 4 (by kernel_rfl)).symm.trans h0_) (by decide), fun h0_ => absurd ((hoff 5 (by kernel_rfl)).symm.trans h0_) (by decide), fun h0_ => absurd ((hoff 6 (by kernel_rfl)).symm.trans h0_) (by decide), Q_X9_, Q_X10_⟩
    refine steps_cons ?_ ?_
    · rintro b a w' ⟨A5r1_0_, c5r1_0_, A5r1_6_, c5r1_6_, A5r4_0_, c5r4_0_, A5r4_6_, c5r4_6_, g5r9_, g5r10_, m1_, m4_, m5_, m6_, m9_, m10_, ha, Q_HD13, Q_O22, Q_O23, Q_O40, Q_O41, Q_BZ42, Q_Z44, Q_BZ45, Q_Z47, Q_BK43, Q_BK46, Q_X1_, Q_X4_, Q_X5_, Q_X6_, Q_X9_, Q_X10_⟩ hb_ hon hoff
      refine ⟨_, rfl, fun K hK => ?_⟩
      have e27 : a.tmps[27]? = some (.agg #[.int .i64 a1_0, .int .i64 a1_1]) := by rw [ha]; exact putSel_on (e := (2, 27, .agg #[.int .i64 a1_0, .int .i64 a1_1])) 2 rfl rfl (hon 2 (by kernel_rfl)) rfl
      replace ha := Aside0.mk ha
      have HD13 := Aside0.mk Q_HD13
      have O22 := Aside0.mk (Q_O22 (hon 1 (by kernel_rfl)) (hoff 4 (by kernel_rfl)))
      have O23 := Aside0.mk (Q_O23 (hon 1 (by kernel_rfl)) (hoff 4 (by kernel_rfl)))
      refine goes_ Try.func38 (by kernel_rfl) rfl #[.agg #[.int .i64 a1_0, .int .i64 a1_1]] (by rfl) rfl rfl (by first | (simp only [List.map_toArray, List.map_cons, List.map_nil, Act.eval, Array.getD_eq_getD_getElem?, Option.getD_some, e27]; done) | (simp only [List.map_toArray, List.map_cons, List.map_nil, Act.eval, Array.getD_eq_getD_getElem?, Option.getD_some, e27]; rfl)) ?_
      with_reducible refine (laws_toAsked.calls a1_0 a1_1 r24 r25 w'  e26.out).mono ?_
      rintro e wn3_ ⟨rfl, hb⟩
      refine ⟨_, rfl, ?_⟩
      refine hK.out _ _ ⟨A5r1_0_, c5r1_0_, A5r1_6_, c5r1_6_, A5r4_0_, c5r4_0_, A5r4_6_, c5r4_6_, g5r9_, g5r10_, m1_, m4_, m5_, m6_, m9_, m10_, (by rw [ha.out]; exact putSel_upk 3 hb_ rfl rfl rfl), below_step HD13.out hb, fun _ _ => Kd.S_below O22.out hb, fun _ _ => Kd.R_below O23.out hb, fun h0_ => absurd ((hoff 4 (by kernel_rfl)).symm.trans h0_) (by decide), fun h0_ => absurd ((hoff 4 (by kernel_rfl)).symm.trans h0_) (by decide), fun h0_ h1_ => blk_below (Q_BZ42 h0_ h1_) hb, Q_Z44, fun h0_ h1_ => blk_below (Q_BZ45 h0_ h1_) hb, Q_Z47, fun _ h1_ => absurd ((hoff 11 (by kernel_rfl)).symm.trans h1_) (by decide), fun _ h1_ => absurd ((hoff 12 (by kernel_rfl)).symm.trans h1_) (by decide), Q_X1_, fun h0_ => absurd ((hoff 4 (by kernel_rfl)).symm.trans h0_) (by decide), fun h0_ => absurd ((hoff 5 (by kernel_rfl)).symm.trans h0_) (by decide), fun h0_ => absurd ((hoff 6 (by kernel_rfl)).symm.trans h0_) (by decide), Q_X9_, Q_X10_⟩
    refine steps_cons ?_ ?_
    · rintro b a w' ⟨A5r1_0_, c5r1_0_, A5r1_6_, c5r1_6_, A5r4_0_, c5r4_0_, A5r4_6_, c5r4_6_, g5r9_, g5r10_, m1_, m4_, m5_, m6_, m9_, m10_, ha, Q_HD13, Q_O22, Q_O23, Q_O40, Q_O41, Q_BZ42, Q_Z44, Q_BZ45, Q_Z47, Q_BK43, Q_BK46, Q_X1_, Q_X4_, Q_X5_, Q_X6_, Q_X9_, Q_X10_⟩ hb_ hon hoff
      refine ⟨_, rfl, fun K hK => ?_⟩
      have e26 : a.tmps[26]? = some (m1_) := by rw [ha]; exact putSel_on (e := (1, 26, m1_)) 1 rfl rfl (hon 1 (by kernel_rfl)) rfl
      rw [Q_X1_ (hon 1 (by kernel_rfl))] at e26
      have e28 : a.tmps[28]? = some (.agg #[.int .i64 r24, .int .i64 r25]) := by rw [ha]; exact putSel_on (e := (3, 28, .agg #[.int .i64 r24, .int .i64 r25])) 3 rfl rfl (hon 3 (by kernel_rfl)) rfl
      replace ha := Aside0.mk ha
      have HD13 := Aside0.mk Q_HD13
      have O22 := Aside0.mk (Q_O22 (hon 1 (by kernel_rfl)) hb_)
      have O23 := Aside0.mk (Q_O23 (hon 1 (by kernel_rfl)) hb_)
      refine goes_ Try.func44 (by kernel_rfl) rfl #[.agg #[.slice A5r1_0_ r14.length c5r1_0_, .int .i64 r15, .int .i64 r16, .int .i64 r17, .int .i64 r18, .int .i64 r19, .slice A5r1_6_ r20.length c5r1_6_], .agg #[.int .i64 r24, .int .i64 r25]] (by rfl) rfl rfl (by first | (simp only [List.map_toArray, List.map_cons, List.map_nil, Act.eval, Array.getD_eq_getD_getElem?, Option.getD_some, e26, e28]; done) | (simp only [List.map_toArray, List.map_cons, List.map_nil, Act.eval, Array.getD_eq_getD_getElem?, Option.getD_some, e26, e28]; rfl)) ?_
      with_reducible refine (spec_GiveZero.calls k A5r1_0_ c5r1_0_ r14 r15 r16 r17 r18 r19 A5r1_6_ c5r1_6_ r20 r24 r25 r27 r28 r29 r30 r31 r32 r33 r34 r35 r36 r37 r38 w' (Kd.S_reads' O22.out).2.2 (Kd.S_reads' O22.out).2.1 (Kd.R_reads' O23.out).2.2 (Kd.R_reads' O23.out).2.1 e39.out).mono ?_
      rintro e wn4_ ⟨v4_0, v4_6, rfl, h4_0, h4_6, hb⟩
      refine ⟨_, rfl, ?_⟩
      obtain ⟨A5r4_0_n, c5r4_0_n, rfl⟩ := Kd.S_slice h4_0
      obtain ⟨A5r4_6_n, c5r4_6_n, rfl⟩ := Kd.R_slice h4_6
      refine hK.out _ _ ⟨A5r1_0_, c5r1_0_, A5r1_6_, c5r1_6_, A5r4_0_n, c5r4_0_n, A5r4_6_n, c5r4_6_n, g5r9_, g5r10_, m1_, (.tuple #[.agg #[.slice A5r4_0_n r27.length c5r4_0_n, .int .i64 r28, .int .i64 r29, .int .i64 r30, .int .i64 r31, .int .i64 r32, .slice A5r4_6_n r33.length c5r4_6_n], .agg #[.int .i64 r34, .int .i64 r35, .int .i64 r36, .int .i64 r37], .bool r38]), m5_, m6_, m9_, m10_, (by rw [ha.out]; exact putSel_upk 4 hb_ rfl rfl rfl), below_step HD13.out hb, fun _ h1_ => absurd ((up_self b 4).symm.trans h1_) (by decide), fun _ h1_ => absurd ((up_self b 4).symm.trans h1_) (by decide), fun _ => Kd.S_lower (Kd.S_mono (Kd.S_bound h4_0) (fun k_ hk => trivial)) (below_size HD13.out), fun _ => Kd.R_lower (Kd.R_mono (Kd.R_bound h4_6) (fun k_ hk => trivial)) (below_size HD13.out), fun h0_ h1_ => blk_below (Q_BZ42 h0_ h1_) hb, Q_Z44, fun h0_ h1_ => blk_below (Q_BZ45 h0_ h1_) hb, Q_Z47, fun _ h1_ => absurd ((hoff 11 (by kernel_rfl)).symm.trans h1_) (by decide), fun _ h1_ => absurd ((hoff 12 (by kernel_rfl)).symm.trans h1_) (by decide), Q_X1_, fun _ => rfl, fun h0_ => absurd ((hoff 5 (by kernel_rfl)).symm.trans h0_) (by decide), fun h0_ => absurd ((hoff 6 (by kernel_rfl)).symm.trans h0_) (by decide), Q_X9_, Q_X10_⟩
    refine steps_cons ?_ ?_
    · rintro b a w' ⟨A5r1_0_, c5r1_0_, A5r1_6_, c5r1_6_, A5r4_0_, c5r4_0_, A5r4_6_, c5r4_6_, g5r9_, g5r10_, m1_, m4_, m5_, m6_, m9_, m10_, ha, Q_HD13, Q_O22, Q_O23, Q_O40, Q_O41, Q_BZ42, Q_Z44, Q_BZ45, Q_Z47, Q_BK43, Q_BK46, Q_X1_, Q_X4_, Q_X5_, Q_X6_, Q_X9_, Q_X10_⟩ hb_ hon hoff
      refine ⟨_, rfl, fun K hK => ?_⟩
      have e29 : a.tmps[29]? = some (m4_) := by rw [ha]; exact putSel_on (e := (4, 29, m4_)) 4 rfl rfl (hon 4 (by kernel_rfl)) rfl
      rw [Q_X4_ (hon 4 (by kernel_rfl))] at e29
      replace ha := Aside0.mk ha
      have HD13 := Aside0.mk Q_HD13
      have O40 := Aside0.mk (Q_O40 (hon 4 (by kernel_rfl)))
      have O41 := Aside0.mk (Q_O41 (hon 4 (by kernel_rfl)))
      refine value_ (w1 := w') (v := .tuple #[.agg #[.slice A5r4_0_ r27.length c5r4_0_, .int .i64 r28, .int .i64 r29, .int .i64 r30, .int .i64 r31, .int .i64 r32, .slice A5r4_6_ r33.length c5r4_6_], .agg #[.int .i64 r34, .int .i64 r35, .int .i64 r36, .int .i64 r37], .bool r38]) (by rfl) rfl ?_ ?_
      · go_simp
        (try simp only [i64_w])
        try rfl
      refine hK.out _ _ ⟨A5r1_0_, c5r1_0_, A5r1_6_, c5r1_6_, A5r4_0_, c5r4_0_, A5r4_6_, c5r4_6_, g5r9_, g5r10_, m1_, m4_, (.tuple #[.agg #[.slice A5r4_0_ r27.length c5r4_0_, .int .i64 r28, .int .i64 r29, .int .i64 r30, .int .i64 r31, .int .i64 r32, .slice A5r4_6_ r33.length c5r4_6_], .agg #[.int .i64 r34, .int .i64 r35, .int .i64 r36, .int .i64 r37], .bool r38]), m6_, m9_, m10_, (by rw [ha.out]; exact putSel_upk 5 hb_ rfl rfl rfl), Q_HD13, fun _ h1_ => absurd ((hon 4 (by kernel_rfl)).symm.trans h1_) (by decide), fun _ h1_ => absurd ((hon 4 (by kernel_rfl)).symm.trans h1_) (by decide), Q_O40, Q_O41, Q_BZ42, Q_Z44, Q_BZ45, Q_Z47, fun _ h1_ => absurd ((hoff 11 (by kernel_rfl)).symm.trans h1_) (by decide), fun _ h1_ => absurd ((hoff 12 (by kernel_rfl)).symm.trans h1_) (by decide), Q_X1_, Q_X4_, fun _ => rfl, fun h0_ => absurd ((hoff 6 (by kernel_rfl)).symm.trans h0_) (by decide), Q_X9_, Q_X10_⟩
    refine steps_cons ?_ ?_
    · rintro b a w' ⟨A5r1_0_, c5r1_0_, A5r1_6_, c5r1_6_, A5r4_0_, c5r4_0_, A5r4_6_, c5r4_6_, g5r9_, g5r10_, m1_, m4_, m5_, m6_, m9_, m10_, ha, Q_HD13, Q_O22, Q_O23, Q_O40, Q_O41, Q_BZ42, Q_Z44, Q_BZ45, Q_Z47, Q_BK43, Q_BK46, Q_X1_, Q_X4_, Q_X5_, Q_X6_, Q_X9_, Q_X10_⟩ hb_ hon hoff
      refine ⟨_, rfl, fun K hK => ?_⟩
      have e24 : a.tmps[24]? = some (m5_) := by rw [ha]; exact putSel_on (e := (5, 24, m5_)) 5 rfl rfl (hon 5 (by kernel_rfl)) rfl
      rw [Q_X5_ (hon 5 (by kernel_rfl))] at e24
      replace ha := Aside0.mk ha
      have HD13 := Aside0.mk Q_HD13
      have O40 := Aside0.mk (Q_O40 (hon 4 (by kernel_rfl)))
      have O41 := Aside0.mk (Q_O41 (hon 4 (by kernel_rfl)))
      refine value_ (w1 := w') (v := .agg #[.slice A5r4_0_ r27.length c5r4_0_, .int .i64 r28, .int .i64 r29, .int .i64 r30, .int .i64 r31, .int .i64 r32, .slice A5r4_6_ r33.length c5r4_6_]) (by rfl) rfl ?_ ?_
      · go_simp
        (try simp only [i64_w])
        try rfl
      refine hK.out _ _ ⟨A5r1_0_, c5r1_0_, A5r1_6_, c5r1_6_, A5r4_0_, c5r4_0_, A5r4_6_, c5r4_6_, g5r9_, g5r10_, m1_, m4_, m5_, (.agg #[.slice A5r4_0_ r27.length c5r4_0_, .int .i64 r28, .int .i64 r29, .int .i64 r30, .int .i64 r31, .int .i64 r32, .slice A5r4_6_ r33.length c5r4_6_]), m9_, m10_, (by rw [ha.out]; exact putSel_upk 6 hb_ rfl rfl rfl), Q_HD13, fun _ h1_ => absurd ((hon 4 (by kernel_rfl)).symm.trans h1_) (by decide), fun _ h1_ => absurd ((hon 4 (by kernel_rfl)).symm.trans h1_) (by decide), Q_O40, Q_O41, Q_BZ42, Q_Z44, Q_BZ45, Q_Z47, fun _ h1_ => absurd ((hoff 11 (by kernel_rfl)).symm.trans h1_) (by decide), fun _ h1_ => absurd ((hoff 12 (by kernel_rfl)).symm.trans h1_) (by decide), Q_X1_, Q_X4_, Q_X5_, fun _ => rfl, Q_X9_, Q_X10_⟩
    refine steps_cons ?_ ?_
    · rintro b a w' ⟨A5r1_0_, c5r1_0_, A5r1_6_, c5r1_6_, A5r4_0_, c5r4_0_, A5r4_6_, c5r4_6_, g5r9_, g5r10_, m1_, m4_, m5_, m6_, m9_, m10_, ha, Q_HD13, Q_O22, Q_O23, Q_O40, Q_O41, Q_BZ42, Q_Z44, Q_BZ45, Q_Z47, Q_BK43, Q_BK46, Q_X1_, Q_X4_, Q_X5_, Q_X6_, Q_X9_, Q_X10_⟩ hb_ hon hoff
      refine ⟨_, rfl, fun K hK => ?_⟩
      have e24 : a.tmps[24]? = some (m5_) := by rw [ha]; exact putSel_on (e := (5, 24, m5_)) 5 rfl rfl (hon 5 (by kernel_rfl)) rfl
      rw [Q_X5_ (hon 5 (by kernel_rfl))] at e24
      replace ha := Aside0.mk ha
      have HD13 := Aside0.mk Q_HD13
      have O40 := Aside0.mk (Q_O40 (hon 4 (by kernel_rfl)))
      have O41 := Aside0.mk (Q_O41 (hon 4 (by kernel_rfl)))
      refine value_ (w1 := w') (v := .agg #[.int .i64 r34, .int .i64 r35, .int .i64 r36, .int .i64 r37]) (by rfl) rfl ?_ ?_
      · go_simp
        (try simp only [i64_w])
        try rfl
      refine hK.out _ _ ⟨A5r1_0_, c5r1_0_, A5r1_6_, c5r1_6_, A5r4_0_, c5r4_0_, A5r4_6_, c5r4_6_, g5r9_, g5r10_, m1_, m4_, m5_, m6_, m9_, m10_, (by rw [ha.out]; exact putSel_upk 7 hb_ rfl rfl rfl), Q_HD13, fun _ h1_ => absurd ((hon 4 (by kernel_rfl)).symm.trans h1_) (by decide), fun _ h1_ => absurd ((hon 4 (by kernel_rfl)).symm.trans h1_) (by decide), Q_O40, Q_O41, Q_BZ42, Q_Z44, Q_BZ45, Q_Z47, Q_BK43, fun _ h1_ => absurd ((hoff 12 (by kernel_rfl)).symm.trans h1_) (by decide), Q_X1_, Q_X4_, Q_X5_, Q_X6_, Q_X9_, Q_X10_⟩
    refine steps_cons ?_ ?_
    · rintro b a w' ⟨A5r1_0_, c5r1_0_, A5r1_6_, c5r1_6_, A5r4_0_, c5r4_0_, A5r4_6_, c5r4_6_, g5r9_, g5r10_, m1_, m4_, m5_, m6_, m9_, m10_, ha, Q_HD13, Q_O22, Q_O23, Q_O40, Q_O41, Q_BZ42, Q_Z44, Q_BZ45, Q_Z47, Q_BK43, Q_BK46, Q_X1_, Q_X4_, Q_X5_, Q_X6_, Q_X9_, Q_X10_⟩ hb_ hon hoff
      refine ⟨_, rfl, fun K hK => ?_⟩
      have e24 : a.tmps[24]? = some (m5_) := by rw [ha]; exact putSel_on (e := (5, 24, m5_)) 5 rfl rfl (hon 5 (by kernel_rfl)) rfl
      rw [Q_X5_ (hon 5 (by kernel_rfl))] at e24
      replace ha := Aside0.mk ha
      have HD13 := Aside0.mk Q_HD13
      have O40 := Aside0.mk (Q_O40 (hon 4 (by kernel_rfl)))
      have O41 := Aside0.mk (Q_O41 (hon 4 (by kernel_rfl)))
      refine value_ (w1 := w') (v := .bool r38) (by rfl) rfl ?_ ?_
      · go_simp
        (try simp only [i64_w])
        try rfl
      refine hK.out _ _ ⟨A5r1_0_, c5r1_0_, A5r1_6_, c5r1_6_, A5r4_0_, c5r4_0_, A5r4_6_, c5r4_6_, g5r9_, g5r10_, m1_, m4_, m5_, m6_, m9_, m10_, (by rw [ha.out]; exact putSel_upk 8 hb_ rfl rfl rfl), Q_HD13, fun _ h1_ => absurd ((hon 4 (by kernel_rfl)).symm.trans h1_) (by decide), fun _ h1_ => absurd ((hon 4 (by kernel_rfl)).symm.trans h1_) (by decide), Q_O40, Q_O41, Q_BZ42, Q_Z44, Q_BZ45, Q_Z47, Q_BK43, Q_BK46, Q_X1_, Q_X4_, Q_X5_, Q_X6_, Q_X9_, Q_X10_⟩
    refine steps_cons ?_ ?_
    · rintro b a w' ⟨A5r1_0_, c5r1_0_, A5r1_6_, c5r1_6_, A5r4_0_, c5r4_0_, A5r4_6_, c5r4_6_, g5r9_, g5r10_, m1_, m4_, m5_, m6_, m9_, m10_, ha, Q_HD13, Q_O22, Q_O23, Q_O40, Q_O41, Q_BZ42, Q_Z44, Q_BZ45, Q_Z47, Q_BK43, Q_BK46, Q_X1_, Q_X4_, Q_X5_, Q_X6_, Q_X9_, Q_X10_⟩ hb_ hon hoff
      refine ⟨_, rfl, fun K hK => ?_⟩
      replace ha := Aside0.mk ha
      have HD13 := Aside0.mk Q_HD13
      refine box_step ?hg (N := 6) ?hd (cs := #[.slice none 0 0, .int .i64 0, .int .i64 0, .int .i64 0, .int .i64 0, .int .i64 0, .slice none 0 0]) (t := 70) ?hr ?_; (case hd => rfl); (case hg => rfl); (case hr => first | (go_simp; done) | (go_simp; rfl))
      intro g5r9_n hg wn9_ hbox hb
      refine hK.out _ _ ⟨A5r1_0_, c5r1_0_, A5r1_6_, c5r1_6_, A5r4_0_, c5r4_0_, A5r4_6_, c5r4_6_, g5r9_n, g5r10_, m1_, m4_, m5_, m6_, (.pointer (some ⟨g5r9_n, 0, none⟩)), m10_, (by rw [ha.out]; exact putSel_upk 9 hb_ rfl rfl rfl), below_step HD13.out hb, fun h0_ h1_ => Kd.S_below (Q_O22 h0_ h1_) hb, fun h0_ h1_ => Kd.R_below (Q_O23 h0_ h1_) hb, fun h0_ => Kd.S_below (Q_O40 h0_) hb, fun h0_ => Kd.R_below (Q_O41 h0_) hb, fun _ _ => hbox, fun _ => (by rw [hg]; exact below_size HD13.out), fun h0_ h1_ => blk_below (Q_BZ45 h0_ h1_) hb, Q_Z47, fun _ h1_ => absurd ((hoff 11 (by kernel_rfl)).symm.trans h1_) (by decide), fun _ h1_ => absurd ((hoff 12 (by kernel_rfl)).symm.trans h1_) (by decide), Q_X1_, Q_X4_, Q_X5_, Q_X6_, fun _ => rfl, Q_X10_⟩
    refine steps_cons ?_ ?_
    · rintro b a w' ⟨A5r1_0_, c5r1_0_, A5r1_6_, c5r1_6_, A5r4_0_, c5r4_0_, A5r4_6_, c5r4_6_, g5r9_, g5r10_, m1_, m4_, m5_, m6_, m9_, m10_, ha, Q_HD13, Q_O22, Q_O23, Q_O40, Q_O41, Q_BZ42, Q_Z44, Q_BZ45, Q_Z47, Q_BK43, Q_BK46, Q_X1_, Q_X4_, Q_X5_, Q_X6_, Q_X9_, Q_X10_⟩ hb_ hon hoff
      refine ⟨_, rfl, fun K hK => ?_⟩
      replace ha := Aside0.mk ha
      have HD13 := Aside0.mk Q_HD13
      refine box_step ?hg (N := 7) ?hd (cs := #[.int .i64 0, .int .i64 0, .int .i64 0, .int .i64 0]) (t := 32) ?hr ?_; (case hd => rfl); (case hg => rfl); (case hr => first | (go_simp; done) | (go_simp; rfl))
      intro g5r10_n hg wn10_ hbox hb
      refine hK.out _ _ ⟨A5r1_0_, c5r1_0_, A5r1_6_, c5r1_6_, A5r4_0_, c5r4_0_, A5r4_6_, c5r4_6_, g5r9_, g5r10_n, m1_, m4_, m5_, m6_, m9_, (.pointer (some ⟨g5r10_n, 0, none⟩)), (by rw [ha.out]; exact putSel_upk 10 hb_ rfl rfl rfl), below_step HD13.out hb, fun h0_ h1_ => Kd.S_below (Q_O22 h0_ h1_) hb, fun h0_ h1_ => Kd.R_below (Q_O23 h0_ h1_) hb, fun h0_ => Kd.S_below (Q_O40 h0_) hb, fun h0_ => Kd.R_below (Q_O41 h0_) hb, fun h0_ h1_ => blk_below (Q_BZ42 h0_ h1_) hb, Q_Z44, fun _ _ => hbox, fun _ => (by rw [hg]; exact below_size HD13.out), fun _ h1_ => absurd ((hoff 11 (by kernel_rfl)).symm.trans h1_) (by decide), fun _ h1_ => absurd ((hoff 12 (by kernel_rfl)).symm.trans h1_) (by decide), Q_X1_, Q_X4_, Q_X5_, Q_X6_, Q_X9_, fun _ => rfl⟩
    refine steps_cons ?_ ?_
    · rintro b a w' ⟨A5r1_0_, c5r1_0_, A5r1_6_, c5r1_6_, A5r4_0_, c5r4_0_, A5r4_6_, c5r4_6_, g5r9_, g5r10_, m1_, m4_, m5_, m6_, m9_, m10_, ha, Q_HD13, Q_O22, Q_O23, Q_O40, Q_O41, Q_BZ42, Q_Z44, Q_BZ45, Q_Z47, Q_BK43, Q_BK46, Q_X1_, Q_X4_, Q_X5_, Q_X6_, Q_X9_, Q_X10_⟩ hb_ hon hoff
      refine ⟨_, rfl, fun K hK => ?_⟩
      have e6 : a.tmps[6]? = some (m9_) := by rw [ha]; exact putSel_on (e := (9, 6, m9_)) 9 rfl rfl (hon 9 (by kernel_rfl)) rfl
      rw [Q_X9_ (hon 9 (by kernel_rfl))] at e6
      have e30 : a.tmps[30]? = some (m6_) := by rw [ha]; exact putSel_on (e := (6, 30, m6_)) 6 rfl rfl (hon 6 (by kernel_rfl)) rfl
      rw [Q_X6_ (hon 6 (by kernel_rfl))] at e30
      replace ha := Aside0.mk ha
      have HD13 := Aside0.mk Q_HD13
      have O40 := Aside0.mk (Q_O40 (hon 4 (by kernel_rfl)))
      have O41 := Aside0.mk (Q_O41 (hon 4 (by kernel_rfl)))
      have BZ42 := Aside0.mk (Q_BZ42 (hon 9 (by kernel_rfl)) hb_)
      have Z44 := Aside0.mk (Q_Z44 (hon 9 (by kernel_rfl)))
      have BZ45 := Aside0.mk (Q_BZ45 (hon 10 (by kernel_rfl)) (hoff 12 (by kernel_rfl)))
      have Z47 := Aside0.mk (Q_Z47 (hon 10 (by kernel_rfl)))
      have hs0_ : w'.cell? ⟨g5r9_, 0, none⟩ = some (.slice none 0 0) := (blk_cell BZ42.out 0).trans rfl
      have hf0_ := blk_frozen BZ42.out 0
      have hs1_ : w'.cell? ⟨g5r9_, 1, none⟩ = some (.int .i64 0) := (blk_cell BZ42.out 1).trans rfl
      have hf1_ := blk_frozen BZ42.out 1
      have hs2_ : w'.cell? ⟨g5r9_, 2, none⟩ = some (.int .i64 0) := (blk_cell BZ42.out 2).trans rfl
      have hf2_ := blk_frozen BZ42.out 2
      have hs3_ : w'.cell? ⟨g5r9_, 3, none⟩ = some (.int .i64 0) := (blk_cell BZ42.out 3).trans rfl
      have hf3_ := blk_frozen BZ42.out 3
      have hs4_ : w'.cell? ⟨g5r9_, 4, none⟩ = some (.int .i64 0) := (blk_cell BZ42.out 4).trans rfl
      have hf4_ := blk_frozen BZ42.out 4
      have hs5_ : w'.cell? ⟨g5r9_, 5, none⟩ = some (.int .i64 0) := (blk_cell BZ42.out 5).trans rfl
      have hf5_ := blk_frozen BZ42.out 5
      have hs6_ : w'.cell? ⟨g5r9_, 6, none⟩ = some (.slice none 0 0) := (blk_cell BZ42.out 6).trans rfl
      have hf6_ := blk_frozen BZ42.out 6
      have hl_ := blk_lt BZ42.out
      refine skip_ (w1 := ?_) (by rfl) rfl ?_ ?_
      rotate_left
      · go_simp
        rfl
      have hnew_ : ((World.setCell (World.setCell (World.setCell (World.setCell (World.setCell (World.setCell (World.setCell w' ⟨g5r9_, 0, none⟩ (.slice A5r4_0_ r27.length c5r4_0_)) ⟨g5r9_, 1, none⟩ (.int .i64 r28)) ⟨g5r9_, 2, none⟩ (.int .i64 r29)) ⟨g5r9_, 3, none⟩ (.int .i64 r30)) ⟨g5r9_, 4, none⟩ (.int .i64 r31)) ⟨g5r9_, 5, none⟩ (.int .i64 r32)) ⟨g5r9_, 6, none⟩ (.slice A5r4_6_ r33.length c5r4_6_))).heap[g5r9_]? = some (.cells #[.slice A5r4_0_ r27.length c5r4_0_, .int .i64 r28, .int .i64 r29, .int .i64 r30, .int .i64 r31, .int .i64 r32, .slice A5r4_6_ r33.length c5r4_6_] 70 (0, 0)) := (blk_put (cs := #[.slice A5r4_0_ r27.length c5r4_0_, .int .i64 r28, .int .i64 r29, .int .i64 r30, .int .i64 r31, .int .i64 r32, .slice none 0 0]) (cs' := #[.slice A5r4_0_ r27.length c5r4_0_, .int .i64 r28, .int .i64 r29, .int .i64 r30, .int .i64 r31, .int .i64 r32, .slice A5r4_6_ r33.length c5r4_6_]) (blk_put (cs := #[.slice A5r4_0_ r27.length c5r4_0_, .int .i64 r28, .int .i64 r29, .int .i64 r30, .int .i64 r31, .int .i64 0, .slice none 0 0]) (cs' := #[.slice A5r4_0_ r27.length c5r4_0_, .int .i64 r28, .int .i64 r29, .int .i64 r30, .int .i64 r31, .int .i64 r32, .slice none 0 0]) (blk_put (cs := #[.slice A5r4_0_ r27.length c5r4_0_, .int .i64 r28, .int .i64 r29, .int .i64 r30, .int .i64 0, .int .i64 0, .slice none 0 0]) (cs' := #[.slice A5r4_0_ r27.length c5r4_0_, .int .i64 r28, .int .i64 r29, .int .i64 r30, .int .i64 r31, .int .i64 0, .slice none 0 0]) (blk_put (cs := #[.slice A5r4_0_ r27.length c5r4_0_, .int .i64 r28, .int .i64 r29, .int .i64 0, .int .i64 0, .int .i64 0, .slice none 0 0]) (cs' := #[.slice A5r4_0_ r27.length c5r4_0_, .int .i64 r28, .int .i64 r29, .int .i64 r30, .int .i64 0, .int .i64 0, .slice none 0 0]) (blk_put (cs := #[.slice A5r4_0_ r27.length c5r4_0_, .int .i64 r28, .int .i64 0, .int .i64 0, .int .i64 0, .int .i64 0, .slice none 0 0]) (cs' := #[.slice A5r4_0_ r27.length c5r4_0_, .int .i64 r28, .int .i64 r29, .int .i64 0, .int .i64 0, .int .i64 0, .slice none 0 0]) (blk_put (cs := #[.slice A5r4_0_ r27.length c5r4_0_, .int .i64 0, .int .i64 0, .int .i64 0, .int .i64 0, .int .i64 0, .slice none 0 0]) (cs' := #[.slice A5r4_0_ r27.length c5r4_0_, .int .i64 r28, .int .i64 0, .int .i64 0, .int .i64 0, .int .i64 0, .slice none 0 0]) (blk_put (cs := #[.slice none 0 0, .int .i64 0, .int .i64 0, .int .i64 0, .int .i64 0, .int .i64 0, .slice none 0 0]) (cs' := #[.slice A5r4_0_ r27.length c5r4_0_, .int .i64 0, .int .i64 0, .int .i64 0, .int .i64 0, .int .i64 0, .slice none 0 0]) BZ42.out 0 (.slice A5r4_0_ r27.length c5r4_0_) rfl) 1 (.int .i64 r28) rfl) 2 (.int .i64 r29) rfl) 3 (.int .i64 r30) rfl) 4 (.int .i64 r31) rfl) 5 (.int .i64 r32) rfl) 6 (.slice A5r4_6_ r33.length c5r4_6_) rfl)
      have hg_ : w'.grownBy (World.setCell (World.setCell (World.setCell (World.setCell (World.setCell (World.setCell (World.setCell w' ⟨g5r9_, 0, none⟩ (.slice A5r4_0_ r27.length c5r4_0_)) ⟨g5r9_, 1, none⟩ (.int .i64 r28)) ⟨g5r9_, 2, none⟩ (.int .i64 r29)) ⟨g5r9_, 3, none⟩ (.int .i64 r30)) ⟨g5r9_, 4, none⟩ (.int .i64 r31)) ⟨g5r9_, 5, none⟩ (.int .i64 r32)) ⟨g5r9_, 6, none⟩ (.slice A5r4_6_ r33.length c5r4_6_)) (some g5r9_) := grown_set_ (grown_set_ (grown_set_ (grown_set_ (grown_set_ (grown_set_ (grown_set_ (World.grownBy.refl _ _) _ _) _ _) _ _) _ _) _ _) _ _) _ _
      generalize (World.setCell (World.setCell (World.setCell (World.setCell (World.setCell (World.setCell (World.setCell w' ⟨g5r9_, 0, none⟩ (.slice A5r4_0_ r27.length c5r4_0_)) ⟨g5r9_, 1, none⟩ (.int .i64 r28)) ⟨g5r9_, 2, none⟩ (.int .i64 r29)) ⟨g5r9_, 3, none⟩ (.int .i64 r30)) ⟨g5r9_, 4, none⟩ (.int .i64 r31)) ⟨g5r9_, 5, none⟩ (.int .i64 r32)) ⟨g5r9_, 6, none⟩ (.slice A5r4_6_ r33.length c5r4_6_)) = wn11_ at hnew_ hg_ ⊢
      refine hK.out _ _ ⟨A5r1_0_, c5r1_0_, A5r1_6_, c5r1_6_, A5r4_0_, c5r4_0_, A5r4_6_, c5r4_6_, g5r9_, g5r10_, m1_, m4_, m5_, m6_, m9_, m10_, (by rw [ha.out]; exact putSel_none (v := undef) rfl), below_grown_ HD13.out hg_ Z44.out, fun _ h1_ => absurd ((hon 4 (by kernel_rfl)).symm.trans h1_) (by decide), fun _ h1_ => absurd ((hon 4 (by kernel_rfl)).symm.trans h1_) (by decide), fun _ => Kd.S_mono (Kd.S_grown (Kd.S_types O40.out BZ42.out (by decide)) hg_ (fun k_ hk_ e_ => hk_.2 (Option.some.inj e_))) (fun _ h_ => h_.1), fun _ => Kd.R_mono (Kd.R_grown (Kd.R_types O41.out BZ42.out (by decide)) hg_ (fun k_ hk_ e_ => hk_.2 (Option.some.inj e_))) (fun _ h_ => h_.1), fun _ h1_ => absurd ((up_self b 11).symm.trans h1_) (by decide), Q_Z44, fun _ _ => blk_grown BZ45.out hg_ (fun e_ => Blk_ne BZ45.out BZ42.out (by decide) (Option.some.inj e_)), Q_Z47, fun _ _ => hnew_, fun _ h1_ => absurd ((hoff 12 (by kernel_rfl)).symm.trans h1_) (by decide), Q_X1_, Q_X4_, Q_X5_, Q_X6_, Q_X9_, Q_X10_⟩
    refine steps_cons ?_ ?_
    · rintro b a w' ⟨A5r1_0_, c5r1_0_, A5r1_6_, c5r1_6_, A5r4_0_, c5r4_0_, A5r4_6_, c5r4_6_, g5r9_, g5r10_, m1_, m4_, m5_, m6_, m9_, m10_, ha, Q_HD13, Q_O22, Q_O23, Q_O40, Q_O41, Q_BZ42, Q_Z44, Q_BZ45, Q_Z47, Q_BK43, Q_BK46, Q_X1_, Q_X4_, Q_X5_, Q_X6_, Q_X9_, Q_X10_⟩ hb_ hon hoff
      refine ⟨_, rfl, fun K hK => ?_⟩
      have e7 : a.tmps[7]? = some (m10_) := by rw [ha]; exact putSel_on (e := (10, 7, m10_)) 10 rfl rfl (hon 10 (by kernel_rfl)) rfl
      rw [Q_X10_ (hon 10 (by kernel_rfl))] at e7
      have e31 : a.tmps[31]? = some (.agg #[.int .i64 r34, .int .i64 r35, .int .i64 r36, .int .i64 r37]) := by rw [ha]; exact putSel_on (e := (7, 31, .agg #[.int .i64 r34, .int .i64 r35, .int .i64 r36, .int .i64 r37])) 7 rfl rfl (hon 7 (by kernel_rfl)) rfl
      replace ha := Aside0.mk ha
      have HD13 := Aside0.mk Q_HD13
      have O40 := Aside0.mk (Q_O40 (hon 4 (by kernel_rfl)))
      have O41 := Aside0.mk (Q_O41 (hon 4 (by kernel_rfl)))
      have Z44 := Aside0.mk (Q_Z44 (hon 9 (by kernel_rfl)))
      have BZ45 := Aside0.mk (Q_BZ45 (hon 10 (by kernel_rfl)) hb_)
      have Z47 := Aside0.mk (Q_Z47 (hon 10 (by kernel_rfl)))
      have BK43 := Aside0.mk (Q_BK43 (hon 9 (by kernel_rfl)) (hon 11 (by kernel_rfl)))
      have hs0_ : w'.cell? ⟨g5r10_, 0, none⟩ = some (.int .i64 0) := (blk_cell BZ45.out 0).trans rfl
      have hf0_ := blk_frozen BZ45.out 0
      have hs1_ : w'.cell? ⟨g5r10_, 1, none⟩ = some (.int .i64 0) := (blk_cell BZ45.out 1).trans rfl
      have hf1_ := blk_frozen BZ45.out 1
      have hs2_ : w'.cell? ⟨g5r10_, 2, none⟩ = some (.int .i64 0) := (blk_cell BZ45.out 2).trans rfl
      have hf2_ := blk_frozen BZ45.out 2
      have hs3_ : w'.cell? ⟨g5r10_, 3, none⟩ = some (.int .i64 0) := (blk_cell BZ45.out 3).trans rfl
      have hf3_ := blk_frozen BZ45.out 3
      have hl_ := blk_lt BZ45.out
      refine skip_ (w1 := ?_) (by rfl) rfl ?_ ?_
      rotate_left
      · go_simp
        rfl
      have hnew_ : ((World.setCell (World.setCell (World.setCell (World.setCell w' ⟨g5r10_, 0, none⟩ (.int .i64 r34)) ⟨g5r10_, 1, none⟩ (.int .i64 r35)) ⟨g5r10_, 2, none⟩ (.int .i64 r36)) ⟨g5r10_, 3, none⟩ (.int .i64 r37))).heap[g5r10_]? = some (.cells #[.int .i64 r34, .int .i64 r35, .int .i64 r36, .int .i64 r37] 32 (0, 0)) := (blk_put (cs := #[.int .i64 r34, .int .i64 r35, .int .i64 r36, .int .i64 0]) (cs' := #[.int .i64 r34, .int .i64 r35, .int .i64 r36, .int .i64 r37]) (blk_put (cs := #[.int .i64 r34, .int .i64 r35, .int .i64 0, .int .i64 0]) (cs' := #[.int .i64 r34, .int .i64 r35, .int .i64 r36, .int .i64 0]) (blk_put (cs := #[.int .i64 r34, .int .i64 0, .int .i64 0, .int .i64 0]) (cs' := #[.int .i64 r34, .int .i64 r35, .int .i64 0, .int .i64 0]) (blk_put (cs := #[.int .i64 0, .int .i64 0, .int .i64 0, .int .i64 0]) (cs' := #[.int .i64 r34, .int .i64 0, .int .i64 0, .int .i64 0]) BZ45.out 0 (.int .i64 r34) rfl) 1 (.int .i64 r35) rfl) 2 (.int .i64 r36) rfl) 3 (.int .i64 r37) rfl)
      have hg_ : w'.grownBy (World.setCell (World.setCell (World.setCell (World.setCell w' ⟨g5r10_, 0, none⟩ (.int .i64 r34)) ⟨g5r10_, 1, none⟩ (.int .i64 r35)) ⟨g5r10_, 2, none⟩ (.int .i64 r36)) ⟨g5r10_, 3, none⟩ (.int .i64 r37)) (some g5r10_) := grown_set_ (grown_set_ (grown_set_ (grown_set_ (World.grownBy.refl _ _) _ _) _ _) _ _) _ _
      generalize (World.setCell (World.setCell (World.setCell (World.setCell w' ⟨g5r10_, 0, none⟩ (.int .i64 r34)) ⟨g5r10_, 1, none⟩ (.int .i64 r35)) ⟨g5r10_, 2, none⟩ (.int .i64 r36)) ⟨g5r10_, 3, none⟩ (.int .i64 r37)) = wn12_ at hnew_ hg_ ⊢
      refine hK.out _ _ ⟨A5r1_0_, c5r1_0_, A5r1_6_, c5r1_6_, A5r4_0_, c5r4_0_, A5r4_6_, c5r4_6_, g5r9_, g5r10_, m1_, m4_, m5_, m6_, m9_, m10_, (by rw [ha.out]; exact putSel_none (v := undef) rfl), below_grown_ HD13.out hg_ Z47.out, fun _ h1_ => absurd ((hon 4 (by kernel_rfl)).symm.trans h1_) (by decide), fun _ h1_ => absurd ((hon 4 (by kernel_rfl)).symm.trans h1_) (by decide), fun _ => Kd.S_mono (Kd.S_grown (Kd.S_types O40.out BZ45.out (by decide)) hg_ (fun k_ hk_ e_ => hk_.2 (Option.some.inj e_))) (fun _ h_ => h_.1), fun _ => Kd.R_mono (Kd.R_grown (Kd.R_types O41.out BZ45.out (by decide)) hg_ (fun k_ hk_ e_ => hk_.2 (Option.some.inj e_))) (fun _ h_ => h_.1), fun _ h1_ => absurd ((hon 11 (by kernel_rfl)).symm.trans h1_) (by decide), Q_Z44, fun _ h1_ => absurd ((up_self b 12).symm.trans h1_) (by decide), Q_Z47, fun _ _ => blk_grown BK43.out hg_ (fun e_ => Blk_ne BK43.out BZ45.out (by decide) (Option.some.inj e_)), fun _ _ => hnew_, Q_X1_, Q_X4_, Q_X5_, Q_X6_, Q_X9_, Q_X10_⟩
    refine steps_cons ?_ ?_
    · rintro b a w' ⟨A5r1_0_, c5r1_0_, A5r1_6_, c5r1_6_, A5r4_0_, c5r4_0_, A5r4_6_, c5r4_6_, g5r9_, g5r10_, m1_, m4_, m5_, m6_, m9_, m10_, ha, Q_HD13, Q_O22, Q_O23, Q_O40, Q_O41, Q_BZ42, Q_Z44, Q_BZ45, Q_Z47, Q_BK43, Q_BK46, Q_X1_, Q_X4_, Q_X5_, Q_X6_, Q_X9_, Q_X10_⟩ hb_ hon hoff
      refine ⟨_, rfl, fun K hK => ?_⟩
      have e32 : a.tmps[32]? = some (.bool r38) := by rw [ha]; exact putSel_on (e := (8, 32, .bool r38)) 8 rfl rfl (hon 8 (by kernel_rfl)) rfl
      replace ha := Aside0.mk ha
      have HD13 := Aside0.mk Q_HD13
      have O40 := Aside0.mk (Q_O40 (hon 4 (by kernel_rfl)))
      have O41 := Aside0.mk (Q_O41 (hon 4 (by kernel_rfl)))
      have Z44 := Aside0.mk (Q_Z44 (hon 9 (by kernel_rfl)))
      have Z47 := Aside0.mk (Q_Z47 (hon 10 (by kernel_rfl)))
      have BK43 := Aside0.mk (Q_BK43 (hon 9 (by kernel_rfl)) (hon 11 (by kernel_rfl)))
      have BK46 := Aside0.mk (Q_BK46 (hon 10 (by kernel_rfl)) (hon 12 (by kernel_rfl)))
      refine value_ (w1 := w') (v := .bool r38) (by rfl) rfl ?_ ?_
      · go_simp
        (try simp only [i64_w])
        try rfl
      refine hK.out _ _ ⟨A5r1_0_, c5r1_0_, A5r1_6_, c5r1_6_, A5r4_0_, c5r4_0_, A5r4_6_, c5r4_6_, g5r9_, g5r10_, m1_, m4_, m5_, m6_, m9_, m10_, (by rw [ha.out]; exact putSel_upk 11 hb_ rfl rfl rfl), Q_HD13, fun _ h1_ => absurd ((hon 4 (by kernel_rfl)).symm.trans h1_) (by decide), fun _ h1_ => absurd ((hon 4 (by kernel_rfl)).symm.trans h1_) (by decide), Q_O40, Q_O41, fun _ h1_ => absurd ((hon 11 (by kernel_rfl)).symm.trans h1_) (by decide), Q_Z44, fun _ h1_ => absurd ((hon 12 (by kernel_rfl)).symm.trans h1_) (by decide), Q_Z47, Q_BK43, Q_BK46, Q_X1_, Q_X4_, Q_X5_, Q_X6_, Q_X9_, Q_X10_⟩
    exact steps_nil
  rintro b a w48 hall ⟨A5r1_0_, c5r1_0_, A5r1_6_, c5r1_6_, A5r4_0_, c5r4_0_, A5r4_6_, c5r4_6_, g5r9_, g5r10_, m1_, m4_, m5_, m6_, m9_, m10_, ha, Q_HD13, Q_O22, Q_O23, Q_O40, Q_O41, Q_BZ42, Q_Z44, Q_BZ45, Q_Z47, Q_BK43, Q_BK46, Q_X1_, Q_X4_, Q_X5_, Q_X6_, Q_X9_, Q_X10_⟩
  clear HD13
  have hb0_ := hall 0 (by kernel_rfl)
  have hb1_ := hall 1 (by kernel_rfl)
  have hb2_ := hall 2 (by kernel_rfl)
  have hb3_ := hall 3 (by kernel_rfl)
  have hb4_ := hall 4 (by kernel_rfl)
  have hb5_ := hall 5 (by kernel_rfl)
  have hb6_ := hall 6 (by kernel_rfl)
  have hb7_ := hall 7 (by kernel_rfl)
  have hb8_ := hall 8 (by kernel_rfl)
  have hb9_ := hall 9 (by kernel_rfl)
  have hb10_ := hall 10 (by kernel_rfl)
  have hb11_ := hall 11 (by kernel_rfl)
  have hb12_ := hall 12 (by kernel_rfl)
  have hb13_ := hall 13 (by kernel_rfl)
  subst ha
  obtain rfl := Q_X1_ hb1_
  obtain rfl := Q_X4_ hb4_
  obtain rfl := Q_X5_ hb5_
  obtain rfl := Q_X6_ hb6_
  obtain rfl := Q_X9_ hb9_
  obtain rfl := Q_X10_ hb10_
  simp only [putSel, hb0_, hb1_, hb2_, hb3_, hb4_, hb5_, hb6_, hb7_, hb8_, hb9_, hb10_, hb11_, hb12_, hb13_, if_true, Act.put, List.setIfInBounds_toArray, List.set_cons_zero, List.set_cons_succ]
  have HD13 := Aside0.mk Q_HD13
  clear Q_HD13
  clear Q_O22
  clear Q_O23
  have O40 := Aside0.mk (Q_O40 hb4_)
  clear Q_O40
  have O41 := Aside0.mk (Q_O41 hb4_)
  clear Q_O41
  clear Q_BZ42
  have Z44 := Aside0.mk (Q_Z44 hb9_)
  clear Q_Z44
  clear Q_BZ45
  have Z47 := Aside0.mk (Q_Z47 hb10_)
  clear Q_Z47
  have BK43 := Aside0.mk (Q_BK43 hb9_ hb11_)
  clear Q_BK43
  have BK46 := Aside0.mk (Q_BK46 hb10_ hb12_)
  clear Q_BK46
  clear hall hb0_ hb1_ hb2_ hb3_ hb4_ hb5_ hb6_ hb7_ hb8_ hb9_ hb10_ hb11_ hb12_ hb13_
  replace BK1 := Aside0.mk (blk_below BK1.out HD13.out)
  replace BK2 := Aside0.mk (blk_below BK2.out HD13.out)
  replace O40 := Aside0.mk (show Kd.S (Kd.slice 5 (Kd.int .u8)) 29 w48 w.heap.size (Seg w11.heap.size w48.heap.size w48 [29, 5]) (.slice A5r4_0_ r27.length c5r4_0_) r27 from Kd.S_lower (Kd.S_mono (Kd.S_bound O40.out) (fun k_ hk => ⟨hk.2.1, hk.2.2.1, hk.2.2.2⟩)) (below_size HB.out))
  replace O41 := Aside0.mk (show Kd.R (Kd.int .i64) 3 w48 w.heap.size (Seg w11.heap.size w48.heap.size w48 [3]) (.slice A5r4_6_ r33.length c5r4_6_) r33 from Kd.R_lower (Kd.R_mono (Kd.R_bound O41.out) (fun k_ hk => ⟨hk.2.1, hk.2.2.1, hk.2.2.2⟩)) (below_size HB.out))
  replace HB := Aside0.mk (below_step HB.out HD13.out)
  have Z49 := Aside0.mk (below_size HD13.out)
  clear HD13
  have Z50 := Aside0.mk (blk_lt BK43.out)
  have NS51 := Aside0.mk (show ¬ Seg w11.heap.size w48.heap.size w48 [29, 5] g5r9_ from fun hs_ => Ty_not hs_.2.2 BK43.out (by decide))
  have NS52 := Aside0.mk (show ¬ Seg w11.heap.size w48.heap.size w48 [3] g5r9_ from fun hs_ => Ty_not hs_.2.2 BK43.out (by decide))
  have Z53 := Aside0.mk (blk_lt BK46.out)
  have NS54 := Aside0.mk (show ¬ Seg w11.heap.size w48.heap.size w48 [29, 5] g5r10_ from fun hs_ => Ty_not hs_.2.2 BK46.out (by decide))
  have NS55 := Aside0.mk (show ¬ Seg w11.heap.size w48.heap.size w48 [3] g5r10_ from fun hs_ => Ty_not hs_.2.2 BK46.out (by decide))
  have hz56 : w48.cell? ⟨w.heap.size, 0, none⟩ = some (.slice A0_0 l0_0.length c0_0) := (blk_cell BK1.out 0).trans rfl
  have hz57 : w48.cell? ⟨w.heap.size, 1, none⟩ = some (.int .i64 a0_1) := (blk_cell BK1.out 1).trans rfl
  have hz58 : w48.cell? ⟨w.heap.size, 2, none⟩ = some (.int .i64 a0_2) := (blk_cell BK1.out 2).trans rfl
  have hz59 : w48.cell? ⟨w.heap.size, 3, none⟩ = some (.int .i64 a0_3) := (blk_cell BK1.out 3).trans rfl
  have hz60 : w48.cell? ⟨w.heap.size, 4, none⟩ = some (.int .i64 a0_4) := (blk_cell BK1.out 4).trans rfl
  have hz61 : w48.cell? ⟨w.heap.size, 5, none⟩ = some (.int .i64 a0_5) := (blk_cell BK1.out 5).trans rfl
  have hz62 : w48.cell? ⟨w.heap.size, 6, none⟩ = some (.slice A0_6 l0_6.length c0_6) := (blk_cell BK1.out 6).trans rfl
  have hl63 : w.heap.size < w48.heap.size := blk_lt BK1.out
  go_wp2_with fail
  clear hz56 hz57 hz58 hz59 hz60 hz61 hz62 hl63
  refine (laws_toArena.calls k A0_0 c0_0 l0_0 a0_1 a0_2 a0_3 a0_4 a0_5 A0_6 c0_6 l0_6 r14 r15 r16 r17 r18 r19 r20 w48 (Kd.C_below HR0_0.out HB.out) HC0_0.out (Kd.C_below HR0_6.out HB.out) HC0_6.out e21.out).mono ?_
  rintro e w64 ⟨v0_w64, v6_w64, rfl, h0_w64, h6_w64, hb⟩
  replace BK1 := Aside0.mk (blk_below BK1.out hb)
  replace BK2 := Aside0.mk (blk_below BK2.out hb)
  replace O40 := Aside0.mk (Kd.S_below O40.out hb)
  replace O41 := Aside0.mk (Kd.R_below O41.out hb)
  replace BK43 := Aside0.mk (blk_below BK43.out hb)
  replace BK46 := Aside0.mk (blk_below BK46.out hb)
  obtain ⟨A65, c66, rfl⟩ := Kd.S_slice h0_w64
  have O67 := Aside0.mk (show Kd.S (Kd.slice 5 (Kd.int .u8)) 29 w64 w.heap.size (Seg w48.heap.size w64.heap.size w64 [29, 5]) (.slice A65 r14.length c66) r14 from Kd.S_lower (Kd.S_mono (Kd.S_bound h0_w64) (fun k_ hk => ⟨hk.2.1, hk.2.2.1, hk.2.2.2⟩)) (below_size HB.out))
  obtain ⟨A68, c69, rfl⟩ := Kd.R_slice h6_w64
  have O70 := Aside0.mk (show Kd.R (Kd.int .i64) 3 w64 w.heap.size (Seg w48.heap.size w64.heap.size w64 [3]) (.slice A68 r20.length c69) r20 from Kd.R_lower (Kd.R_mono (Kd.R_bound h6_w64) (fun k_ hk => ⟨hk.2.1, hk.2.2.1, hk.2.2.2⟩)) (below_size HB.out))
  have Z71 := Aside0.mk (below_size hb)
  replace HB := Aside0.mk (below_step HB.out hb)
  clear hb h0_w64 h6_w64
  go_wp2_with fail
  have HA73 := Below.alloc (Below.refl w64.heap.size w64) (Nat.le_refl _) (.cells #[.slice A65 r14.length c66, .int .i64 r15, .int .i64 r16, .int .i64 r17, .int .i64 r18, .int .i64 r19, .slice A68 r20.length c69] 70)
  replace BK1 := Aside0.mk (blk_below BK1.out HA73)
  replace BK2 := Aside0.mk (blk_below BK2.out HA73)
  replace O40 := Aside0.mk (Kd.S_below O40.out HA73)
  replace O41 := Aside0.mk (Kd.R_below O41.out HA73)
  replace BK43 := Aside0.mk (blk_below BK43.out HA73)
  replace BK46 := Aside0.mk (blk_below BK46.out HA73)
  replace O67 := Aside0.mk (Kd.S_below O67.out HA73)
  replace O70 := Aside0.mk (Kd.R_below O70.out HA73)
  have BK72 := Aside0.mk (heap_alloc_new w64 (.cells #[.slice A65 r14.length c66, .int .i64 r15, .int .i64 r16, .int .i64 r17, .int .i64 r18, .int .i64 r19, .slice A68 r20.length c69] 70))
  replace HB := Aside0.mk (below_step HB.out HA73)
  have Z74 := Aside0.mk (show w64.heap.size < (w64.alloc (.cells #[.slice A65 r14.length c66, .int .i64 r15, .int .i64 r16, .int .i64 r17, .int .i64 r18, .int .i64 r19, .slice A68 r20.length c69] 70)).heap.size by simp)
  clear HA73
  refine start_ (n := 13) (S := fun w' => True) (ds := []) #[false, false, false, false, false, false, false, false, false, false, false, false, false] (by kernel_rfl) rfl rfl trivial (fun hHeld => ?_)
  refine with_tabW FnExactGiveZero.tab7 FnExactGiveZero.bits7 (fun HT_ HW_ => ?_)
  replace BK1 := Aside0.mk (blk_drew BK1.out)
  replace BK2 := Aside0.mk (blk_drew BK2.out)
  replace O40 := Aside0.mk (Kd.S_drew O40.out)
  replace O41 := Aside0.mk (Kd.R_drew O41.out)
  replace BK43 := Aside0.mk (blk_drew BK43.out)
  replace BK46 := Aside0.mk (blk_drew BK46.out)
  replace O67 := Aside0.mk (Kd.S_drew O67.out)
  replace O70 := Aside0.mk (Kd.R_drew O70.out)
  replace BK72 := Aside0.mk (blk_drew BK72.out)
  replace HB := Aside0.mk (below_drew1 HB.out)
  have Z76 := Aside0.mk (show (w64.alloc (.cells #[.slice A65 r14.length c66, .int .i64 r15, .int .i64 r16, .int .i64 r17, .int .i64 r18, .int .i64 r19, .slice A68 r20.length c69] 70)).heap.size ≤ (w64.alloc (.cells #[.slice A65 r14.length c66, .int .i64 r15, .int .i64 r16, .int .i64 r17, .int .i64 r18, .int .i64 r19, .slice A68 r20.length c69] 70)).drew.heap.size from Nat.le_refl _)
  generalize (w64.alloc (.cells #[.slice A65 r14.length c66, .int .i64 r15, .int .i64 r16, .int .i64 r17, .int .i64 r18, .int .i64 r19, .slice A68 r20.length c69] 70)).drew = w75 at BK1 BK2 O40 O41 BK43 BK46 O67 O70 BK72 HB Z76 hHeld ⊢
  clear hHeld
  have HD77 := Aside0.mk (Below.refl w75.heap.size w75)
  refine inv_at [0, 1, 2, 3, 4, 5, 6, 7, 8, 9, 10, 11, 12] (fun a0_ b a w' => ∃ (A7r3_0_ : Option Addr) (c7r3_0_ : Nat) (A7r3_6_ : Option Addr) (c7r3_6_ : Nat) (g7r8_ : Nat) (g7r9_ : Nat) (m3_ : Value) (m4_ : Value) (m5_ : Value) (m8_ : Value) (m9_ : Value), a = putSel a0_ b [(0, 36, .agg #[.slice A65 r14.length c66, .int .i64 r15, .int .i64 r16, .int .i64 r17, .int .i64 r18, .int .i64 r19, .slice A68 r20.length c69]), (1, 37, .agg #[.int .i64 a1_0, .int .i64 a1_1]), (2, 38, .agg #[.int .i64 r24, .int .i64 r25]), (3, 39, m3_), (4, 35, m4_), (5, 40, m5_), (6, 41, .agg #[.int .i64 r34, .int .i64 r35, .int .i64 r36, .int .i64 r37]), (7, 42, .bool r38), (8, 10, m8_), (9, 11, m9_), (12, 12, .bool r38)] ∧ (Below w75.heap.size w75 w') ∧ (b 3 = true → Kd.S (Kd.slice 5 (Kd.int .u8)) 29 w' w75.heap.size (fun _ => True) (.slice A7r3_0_ r27.length c7r3_0_) r27) ∧ (b 3 = true → Kd.R (Kd.int .i64) 3 w' w75.heap.size (fun _ => True) (.slice A7r3_6_ r33.length c7r3_6_) r33) ∧ (b 8 = true → b 10 = false → w'.heap[g7r8_]? = some (.cells #[.slice none 0 0, .int .i64 0, .int .i64 0, .int .i64 0, .int .i64 0, .int .i64 0, .slice none 0 0] 70 (0, 0))) ∧ (b 8 = true → w75.heap.size ≤ g7r8_) ∧ (b 9 = true → b 11 = false → w'.heap[g7r9_]? = some (.cells #[.int .i64 0, .int .i64 0, .int .i64 0, .int .i64 0] 32 (0, 0))) ∧ (b 9 = true → w75.heap.size ≤ g7r9_) ∧ (b 8 = true → b 10 = true → w'.heap[g7r8_]? = some (.cells #[.slice A7r3_0_ r27.length c7r3_0_, .int .i64 r28, .int .i64 r29, .int .i64 r30, .int .i64 r31, .int .i64 r32, .slice A7r3_6_ r33.length c7r3_6_] 70 (0, 0))) ∧ (b 9 = true → b 11 = true → w'.heap[g7r9_]? = some (.cells #[.int .i64 r34, .int .i64 r35, .int .i64 r36, .int .i64 r37] 32 (0, 0))) ∧ (b 3 = true → (m3_ : Value) = .tuple #[.agg #[.slice A7r3_0_ r27.length c7r3_0_, .int .i64 r28, .int .i64 r29, .int .i64 r30, .int .i64 r31, .int .i64 r32, .slice A7r3_6_ r33.length c7r3_6_], .agg #[.int .i64 r34, .int .i64 r35, .int .i64 r36, .int .i64 r37], .bool r38]) ∧ (b 4 = true → (m4_ : Value) = .tuple #[.agg #[.slice A7r3_0_ r27.length c7r3_0_, .int .i64 r28, .int .i64 r29, .int .i64 r30, .int .i64 r31, .int .i64 r32, .slice A7r3_6_ r33.length c7r3_6_], .agg #[.int .i64 r34, .int .i64 r35, .int .i64 r36, .int .i64 r37], .bool r38]) ∧ (b 5 = true → (m5_ : Value) = .agg #[.slice A7r3_0_ r27.length c7r3_0_, .int .i64 r28, .int .i64 r29, .int .i64 r30, .int .i64 r31, .int .i64 r32, .slice A7r3_6_ r33.length c7r3_6_]) ∧ (b 8 = true → (m8_ : Value) = .pointer (some ⟨g7r8_, 0, none⟩)) ∧ (b 9 = true → (m9_ : Value) = .pointer (some ⟨g7r9_, 0, none⟩))) HT_.out HW_.out (by kernel_rfl) (by kernel_rfl) ?_ ?_ ?_
  · exact ⟨none, 0, none, 0, 0, 0, .bool false, .bool false, .bool false, .bool false, .bool false, by simp only [putSel, Bool.false_eq_true, if_false], HD77.out, fun h_ => absurd h_ (by decide), fun h_ => absurd h_ (by decide), fun h_ => absurd h_ (by decide), fun h_ => absurd h_ (by decide), fun h_ => absurd h_ (by decide), fun h_ => absurd h_ (by decide), fun h_ => absurd h_ (by decide), fun h_ => absurd h_ (by decide), fun h_ => absurd h_ (by decide), fun h_ => absurd h_ (by decide), fun h_ => absurd h_ (by decide), fun h_ => absurd h_ (by decide), fun h_ => absurd h_ (by decide)⟩
  · skip
    clear HD77
    refine steps_cons ?_ ?_
    · rintro b a w' ⟨A7r3_0_, c7r3_0_, A7r3_6_, c7r3_6_, g7r8_, g7r9_, m3_, m4_, m5_, m8_, m9_, ha, Q_HD77, Q_O79, Q_O80, Q_BZ81, Q_Z83, Q_BZ84, Q_Z86, Q_BK82, Q_BK85, Q_X3_, Q_X4_, Q_X5_, Q_X8_, Q_X9_⟩ hb_ hon hoff
      refine ⟨_, rfl, fun K hK => ?_⟩
      have e9 : a.tmps[9]? = some (.pointer (some ⟨w64.heap.size, 0, none⟩)) := by rw [ha]; exact (putSel_off rfl).trans rfl
      replace ha := Aside0.mk ha
      have HD77 := Aside0.mk Q_HD77
      have hc0_ : w'.cell? ⟨w64.heap.size, 0, none⟩ = some (.slice A65 r14.length c66) := (blk_cell (blk_below BK72.out HD77.out) 0).trans rfl
      have hc1_ : w'.cell? ⟨w64.heap.size, 1, none⟩ = some (.int .i64 r15) := (blk_cell (blk_below BK72.out HD77.out) 1).trans rfl
      have hc2_ : w'.cell? ⟨w64.heap.size, 2, none⟩ = some (.int .i64 r16) := (blk_cell (blk_below BK72.out HD77.out) 2).trans rfl
      have hc3_ : w'.cell? ⟨w64.heap.size, 3, none⟩ = some (.int .i64 r17) := (blk_cell (blk_below BK72.out HD77.out) 3).trans rfl
      have hc4_ : w'.cell? ⟨w64.heap.size, 4, none⟩ = some (.int .i64 r18) := (blk_cell (blk_below BK72.out HD77.out) 4).trans rfl
      have hc5_ : w'.cell? ⟨w64.heap.size, 5, none⟩ = some (.int .i64 r19) := (blk_cell (blk_below BK72.out HD77.out) 5).trans rfl
      have hc6_ : w'.cell? ⟨w64.heap.size, 6, none⟩ = some (.slice A68 r20.length c69) := (blk_cell (blk_below BK72.out HD77.out) 6).trans rfl
      refine value_ (w1 := w') (v := .agg #[.slice A65 r14.length c66, .int .i64 r15, .int .i64 r16, .int .i64 r17, .int .i64 r18, .int .i64 r19, .slice A68 r20.length c69]) (by rfl) rfl ?_ ?_
      · go_simp
        (try simp only [i64_w])
        try rfl
      refine hK.out _ _ ⟨A7r3_0_, c7r3_0_, A7r3_6_, c7r3_6_, g7r8_, g7r9_, m3_, m4_, m5_, m8_, m9_, (by rw [ha.out]; exact putSel_upk 0 hb_ rfl rfl rfl), Q_HD77, fun h0_ => absurd ((hoff 3 (by kernel_rfl)).symm.trans h0_) (by decide), fun h0_ => absurd ((hoff 3 (by kernel_rfl)).symm.trans h0_) (by decide), Q_BZ81, Q_Z83, Q_BZ84, Q_Z86, fun _ h1_ => absurd ((hoff 10 (by kernel_rfl)).symm.trans h1_) (by decide), fun _ h1_ => absurd ((hoff 11 (by kernel_rfl)).symm.trans h1_) (by decide), fun h0_ => absurd ((hoff 3 (by kernel_rfl)).symm.trans h0_) (by decide), fun h0_ => absurd ((hoff 4 (by kernel_rfl)).symm.trans h0_) (by decide), fun h0_ => absurd ((hoff 5 (by kernel_rfl)).symm.trans h0_) (by decide), Q_X8_, Q_X9_⟩
    refine steps_cons ?_ ?_
    · rintro b a w' ⟨A7r3_0_, c7r3_0_, A7r3_6_, c7r3_6_, g7r8_, g7r9_, m3_, m4_, m5_, m8_, m9_, ha, Q_HD77, Q_O79, Q_O80, Q_BZ81, Q_Z83, Q_BZ84, Q_Z86, Q_BK82, Q_BK85, Q_X3_, Q_X4_, Q_X5_, Q_X8_, Q_X9_⟩ hb_ hon hoff
      refine ⟨_, rfl, fun K hK => ?_⟩
      have e3 : a.tmps[3]? = some (.pointer (some ⟨w.heap.size + 1, 0, none⟩)) := by rw [ha]; exact (putSel_off rfl).trans rfl
      replace ha := Aside0.mk ha
      have HD77 := Aside0.mk Q_HD77
      have hc0_ : w'.cell? ⟨w.heap.size + 1, 0, none⟩ = some (.int .i64 a1_0) := (blk_cell (blk_below BK2.out HD77.out) 0).trans rfl
      have hc1_ : w'.cell? ⟨w.heap.size + 1, 1, none⟩ = some (.int .i64 a1_1) := (blk_cell (blk_below BK2.out HD77.out) 1).trans rfl
      refine value_ (w1 := w') (v := .agg #[.int .i64 a1_0, .int .i64 a1_1]) (by rfl) rfl ?_ ?_
      · go_simp
        (try simp only [i64_w])
        try rfl
      refine hK.out _ _ ⟨A7r3_0_, c7r3_0_, A7r3_6_, c7r3_6_, g7r8_, g7r9_, m3_, m4_, m5_, m8_, m9_, (by rw [ha.out]; exact putSel_upk 1 hb_ rfl rfl rfl), Q_HD77, fun h0_ => absurd ((hoff 3 (by kernel_rfl)).symm.trans h0_) (by decide), fun h0_ => absurd ((hoff 3 (by kernel_rfl)).symm.trans h0_) (by decide), Q_BZ81, Q_Z83, Q_BZ84, Q_Z86, fun _ h1_ => absurd ((hoff 10 (by kernel_rfl)).symm.trans h1_) (by decide), fun _ h1_ => absurd ((hoff 11 (by kernel_rfl)).symm.trans h1_) (by decide), fun h0_ => absurd ((hoff 3 (by kernel_rfl)).symm.trans h0_) (by decide), fun h0_ => absurd ((hoff 4 (by kernel_rfl)).symm.trans h0_) (by decide), fun h0_ => absurd ((hoff 5 (by kernel_rfl)).symm.trans h0_) (by decide), Q_X8_, Q_X9_⟩
    refine steps_cons ?_ ?_
    · rintro b a w' ⟨A7r3_0_, c7r3_0_, A7r3_6_, c7r3_6_, g7r8_, g7r9_, m3_, m4_, m5_, m8_, m9_, ha, Q_HD77, Q_O79, Q_O80, Q_BZ81, Q_Z83, Q_BZ84, Q_Z86, Q_BK82, Q_BK85, Q_X3_, Q_X4_, Q_X5_, Q_X8_, Q_X9_⟩ hb_ hon hoff
      refine ⟨_, rfl, fun K hK => ?_⟩
      have e37 : a.tmps[37]? = some (.agg #[.int .i64 a1_0, .int .i64 a1_1]) := by rw [ha]; exact putSel_on (e := (1, 37, .agg #[.int .i64 a1_0, .int .i64 a1_1])) 1 rfl rfl (hon 1 (by kernel_rfl)) rfl
      replace ha := Aside0.mk ha
      have HD77 := Aside0.mk Q_HD77
      refine goes_ Try.func38 (by kernel_rfl) rfl #[.agg #[.int .i64 a1_0, .int .i64 a1_1]] (by rfl) rfl rfl (by first | (simp only [List.map_toArray, List.map_cons, List.map_nil, Act.eval, Array.getD_eq_getD_getElem?, Option.getD_some, e37]; done) | (simp only [List.map_toArray, List.map_cons, List.map_nil, Act.eval, Array.getD_eq_getD_getElem?, Option.getD_some, e37]; rfl)) ?_
      with_reducible refine (laws_toAsked.calls a1_0 a1_1 r24 r25 w'  e26.out).mono ?_
      rintro e wn2_ ⟨rfl, hb⟩
      refine ⟨_, rfl, ?_⟩
      refine hK.out _ _ ⟨A7r3_0_, c7r3_0_, A7r3_6_, c7r3_6_, g7r8_, g7r9_, m3_, m4_, m5_, m8_, m9_, (by rw [ha.out]; exact putSel_upk 2 hb_ rfl rfl rfl), below_step HD77.out hb, fun h0_ => absurd ((hoff 3 (by kernel_rfl)).symm.trans h0_) (by decide), fun h0_ => absurd ((hoff 3 (by kernel_rfl)).symm.trans h0_) (by decide), fun h0_ h1_ => blk_below (Q_BZ81 h0_ h1_) hb, Q_Z83, fun h0_ h1_ => blk_below (Q_BZ84 h0_ h1_) hb, Q_Z86, fun _ h1_ => absurd ((hoff 10 (by kernel_rfl)).symm.trans h1_) (by decide), fun _ h1_ => absurd ((hoff 11 (by kernel_rfl)).symm.trans h1_) (by decide), fun h0_ => absurd ((hoff 3 (by kernel_rfl)).symm.trans h0_) (by decide), fun h0_ => absurd ((hoff 4 (by kernel_rfl)).symm.trans h0_) (by decide), fun h0_ => absurd ((hoff 5 (by kernel_rfl)).symm.trans h0_) (by decide), Q_X8_, Q_X9_⟩
    refine steps_cons ?_ ?_
    · rintro b a w' ⟨A7r3_0_, c7r3_0_, A7r3_6_, c7r3_6_, g7r8_, g7r9_, m3_, m4_, m5_, m8_, m9_, ha, Q_HD77, Q_O79, Q_O80, Q_BZ81, Q_Z83, Q_BZ84, Q_Z86, Q_BK82, Q_BK85, Q_X3_, Q_X4_, Q_X5_, Q_X8_, Q_X9_⟩ hb_ hon hoff
      refine ⟨_, rfl, fun K hK => ?_⟩
      have e36 : a.tmps[36]? = some (.agg #[.slice A65 r14.length c66, .int .i64 r15, .int .i64 r16, .int .i64 r17, .int .i64 r18, .int .i64 r19, .slice A68 r20.length c69]) := by rw [ha]; exact putSel_on (e := (0, 36, .agg #[.slice A65 r14.length c66, .int .i64 r15, .int .i64 r16, .int .i64 r17, .int .i64 r18, .int .i64 r19, .slice A68 r20.length c69])) 0 rfl rfl (hon 0 (by kernel_rfl)) rfl
      have e38 : a.tmps[38]? = some (.agg #[.int .i64 r24, .int .i64 r25]) := by rw [ha]; exact putSel_on (e := (2, 38, .agg #[.int .i64 r24, .int .i64 r25])) 2 rfl rfl (hon 2 (by kernel_rfl)) rfl
      replace ha := Aside0.mk ha
      have HD77 := Aside0.mk Q_HD77
      refine goes_ Try.func45 (by kernel_rfl) rfl #[.agg #[.slice A65 r14.length c66, .int .i64 r15, .int .i64 r16, .int .i64 r17, .int .i64 r18, .int .i64 r19, .slice A68 r20.length c69], .agg #[.int .i64 r24, .int .i64 r25]] (by rfl) rfl rfl (by first | (simp only [List.map_toArray, List.map_cons, List.map_nil, Act.eval, Array.getD_eq_getD_getElem?, Option.getD_some, e36, e38]; done) | (simp only [List.map_toArray, List.map_cons, List.map_nil, Act.eval, Array.getD_eq_getD_getElem?, Option.getD_some, e36, e38]; rfl)) ?_
      with_reducible refine (impl_GiveZero.calls k A65 c66 r14 r15 r16 r17 r18 r19 A68 c69 r20 r24 r25 r27 r28 r29 r30 r31 r32 r33 r34 r35 r36 r37 r38 w' (Kd.S_reads' (Kd.S_below O67.out HD77.out)).2.2 (Kd.S_reads' (Kd.S_below O67.out HD77.out)).2.1 (Kd.R_reads' (Kd.R_below O70.out HD77.out)).2.2 (Kd.R_reads' (Kd.R_below O70.out HD77.out)).2.1 e78.out).mono ?_
      rintro e wn3_ ⟨v3_0, v3_6, rfl, h3_0, h3_6, hb⟩
      refine ⟨_, rfl, ?_⟩
      obtain ⟨A7r3_0_n, c7r3_0_n, rfl⟩ := Kd.S_slice h3_0
      obtain ⟨A7r3_6_n, c7r3_6_n, rfl⟩ := Kd.R_slice h3_6
      refine hK.out _ _ ⟨A7r3_0_n, c7r3_0_n, A7r3_6_n, c7r3_6_n, g7r8_, g7r9_, (.tuple #[.agg #[.slice A7r3_0_n r27.length c7r3_0_n, .int .i64 r28, .int .i64 r29, .int .i64 r30, .int .i64 r31, .int .i64 r32, .slice A7r3_6_n r33.length c7r3_6_n], .agg #[.int .i64 r34, .int .i64 r35, .int .i64 r36, .int .i64 r37], .bool r38]), m4_, m5_, m8_, m9_, (by rw [ha.out]; exact putSel_upk 3 hb_ rfl rfl rfl), below_step HD77.out hb, fun _ => Kd.S_lower (Kd.S_mono (Kd.S_bound h3_0) (fun k_ hk => trivial)) (below_size HD77.out), fun _ => Kd.R_lower (Kd.R_mono (Kd.R_bound h3_6) (fun k_ hk => trivial)) (below_size HD77.out), fun h0_ h1_ => blk_below (Q_BZ81 h0_ h1_) hb, Q_Z83, fun h0_ h1_ => blk_below (Q_BZ84 h0_ h1_) hb, Q_Z86, fun _ h1_ => absurd ((hoff 10 (by kernel_rfl)).symm.trans h1_) (by decide), fun _ h1_ => absurd ((hoff 11 (by kernel_rfl)).symm.trans h1_) (by decide), fun _ => rfl, fun h0_ => absurd ((hoff 4 (by kernel_rfl)).symm.trans h0_) (by decide), fun h0_ => absurd ((hoff 5 (by kernel_rfl)).symm.trans h0_) (by decide), Q_X8_, Q_X9_⟩
    refine steps_cons ?_ ?_
    · rintro b a w' ⟨A7r3_0_, c7r3_0_, A7r3_6_, c7r3_6_, g7r8_, g7r9_, m3_, m4_, m5_, m8_, m9_, ha, Q_HD77, Q_O79, Q_O80, Q_BZ81, Q_Z83, Q_BZ84, Q_Z86, Q_BK82, Q_BK85, Q_X3_, Q_X4_, Q_X5_, Q_X8_, Q_X9_⟩ hb_ hon hoff
      refine ⟨_, rfl, fun K hK => ?_⟩
      have e39 : a.tmps[39]? = some (m3_) := by rw [ha]; exact putSel_on (e := (3, 39, m3_)) 3 rfl rfl (hon 3 (by kernel_rfl)) rfl
      rw [Q_X3_ (hon 3 (by kernel_rfl))] at e39
      replace ha := Aside0.mk ha
      have HD77 := Aside0.mk Q_HD77
      have O79 := Aside0.mk (Q_O79 (hon 3 (by kernel_rfl)))
      have O80 := Aside0.mk (Q_O80 (hon 3 (by kernel_rfl)))
      refine value_ (w1 := w') (v := .tuple #[.agg #[.slice A7r3_0_ r27.length c7r3_0_, .int .i64 r28, .int .i64 r29, .int .i64 r30, .int .i64 r31, .int .i64 r32, .slice A7r3_6_ r33.length c7r3_6_], .agg #[.int .i64 r34, .int .i64 r35, .int .i64 r36, .int .i64 r37], .bool r38]) (by rfl) rfl ?_ ?_
      · go_simp
        (try simp only [i64_w])
        try rfl
      refine hK.out _ _ ⟨A7r3_0_, c7r3_0_, A7r3_6_, c7r3_6_, g7r8_, g7r9_, m3_, (.tuple #[.agg #[.slice A7r3_0_ r27.length c7r3_0_, .int .i64 r28, .int .i64 r29, .int .i64 r30, .int .i64 r31, .int .i64 r32, .slice A7r3_6_ r33.length c7r3_6_], .agg #[.int .i64 r34, .int .i64 r35, .int .i64 r36, .int .i64 r37], .bool r38]), m5_, m8_, m9_, (by rw [ha.out]; exact putSel_upk 4 hb_ rfl rfl rfl), Q_HD77, Q_O79, Q_O80, Q_BZ81, Q_Z83, Q_BZ84, Q_Z86, fun _ h1_ => absurd ((hoff 10 (by kernel_rfl)).symm.trans h1_) (by decide), fun _ h1_ => absurd ((hoff 11 (by kernel_rfl)).symm.trans h1_) (by decide), Q_X3_, fun _ => rfl, fun h0_ => absurd ((hoff 5 (by kernel_rfl)).symm.trans h0_) (by decide), Q_X8_, Q_X9_⟩
    refine steps_cons ?_ ?_
    · rintro b a w' ⟨A7r3_0_, c7r3_0_, A7r3_6_, c7r3_6_, g7r8_, g7r9_, m3_, m4_, m5_, m8_, m9_, ha, Q_HD77, Q_O79, Q_O80, Q_BZ81, Q_Z83, Q_BZ84, Q_Z86, Q_BK82, Q_BK85, Q_X3_, Q_X4_, Q_X5_, Q_X8_, Q_X9_⟩ hb_ hon hoff
      refine ⟨_, rfl, fun K hK => ?_⟩
      have e35 : a.tmps[35]? = some (m4_) := by rw [ha]; exact putSel_on (e := (4, 35, m4_)) 4 rfl rfl (hon 4 (by kernel_rfl)) rfl
      rw [Q_X4_ (hon 4 (by kernel_rfl))] at e35
      replace ha := Aside0.mk ha
      have HD77 := Aside0.mk Q_HD77
      have O79 := Aside0.mk (Q_O79 (hon 3 (by kernel_rfl)))
      have O80 := Aside0.mk (Q_O80 (hon 3 (by kernel_rfl)))
      refine value_ (w1 := w') (v := .agg #[.slice A7r3_0_ r27.length c7r3_0_, .int .i64 r28, .int .i64 r29, .int .i64 r30, .int .i64 r31, .int .i64 r32, .slice A7r3_6_ r33.length c7r3_6_]) (by rfl) rfl ?_ ?_
      · go_simp
        (try simp only [i64_w])
        try rfl
      refine hK.out _ _ ⟨A7r3_0_, c7r3_0_, A7r3_6_, c7r3_6_, g7r8_, g7r9_, m3_, m4_, (.agg #[.slice A7r3_0_ r27.length c7r3_0_, .int .i64 r28, .int .i64 r29, .int .i64 r30, .int .i64 r31, .int .i64 r32, .slice A7r3_6_ r33.length c7r3_6_]), m8_, m9_, (by rw [ha.out]; exact putSel_upk 5 hb_ rfl rfl rfl), Q_HD77, Q_O79, Q_O80, Q_BZ81, Q_Z83, Q_BZ84, Q_Z86, fun _ h1_ => absurd ((hoff 10 (by kernel_rfl)).symm.trans h1_) (by decide), fun _ h1_ => absurd ((hoff 11 (by kernel_rfl)).symm.trans h1_) (by decide), Q_X3_, Q_X4_, fun _ => rfl, Q_X8_, Q_X9_⟩
    refine steps_cons ?_ ?_
    · rintro b a w' ⟨A7r3_0_, c7r3_0_, A7r3_6_, c7r3_6_, g7r8_, g7r9_, m3_, m4_, m5_, m8_, m9_, ha, Q_HD77, Q_O79, Q_O80, Q_BZ81, Q_Z83, Q_BZ84, Q_Z86, Q_BK82, Q_BK85, Q_X3_, Q_X4_, Q_X5_, Q_X8_, Q_X9_⟩ hb_ hon hoff
      refine ⟨_, rfl, fun K hK => ?_⟩
      have e35 : a.tmps[35]? = some (m4_) := by rw [ha]; exact putSel_on (e := (4, 35, m4_)) 4 rfl rfl (hon 4 (by kernel_rfl)) rfl
      rw [Q_X4_ (hon 4 (by kernel_rfl))] at e35
      replace ha := Aside0.mk ha
      have HD77 := Aside0.mk Q_HD77
      have O79 := Aside0.mk (Q_O79 (hon 3 (by kernel_rfl)))
      have O80 := Aside0.mk (Q_O80 (hon 3 (by kernel_rfl)))
      refine value_ (w1 := w') (v := .agg #[.int .i64 r34, .int .i64 r35, .int .i64 r36, .int .i64 r37]) (by rfl) rfl ?_ ?_
      · go_simp
        (try simp only [i64_w])
        try rfl
      refine hK.out _ _ ⟨A7r3_0_, c7r3_0_, A7r3_6_, c7r3_6_, g7r8_, g7r9_, m3_, m4_, m5_, m8_, m9_, (by rw [ha.out]; exact putSel_upk 6 hb_ rfl rfl rfl), Q_HD77, Q_O79, Q_O80, Q_BZ81, Q_Z83, Q_BZ84, Q_Z86, Q_BK82, fun _ h1_ => absurd ((hoff 11 (by kernel_rfl)).symm.trans h1_) (by decide), Q_X3_, Q_X4_, Q_X5_, Q_X8_, Q_X9_⟩
    refine steps_cons ?_ ?_
    · rintro b a w' ⟨A7r3_0_, c7r3_0_, A7r3_6_, c7r3_6_, g7r8_, g7r9_, m3_, m4_, m5_, m8_, m9_, ha, Q_HD77, Q_O79, Q_O80, Q_BZ81, Q_Z83, Q_BZ84, Q_Z86, Q_BK82, Q_BK85, Q_X3_, Q_X4_, Q_X5_, Q_X8_, Q_X9_⟩ hb_ hon hoff
      refine ⟨_, rfl, fun K hK => ?_⟩
      have e35 : a.tmps[35]? = some (m4_) := by rw [ha]; exact putSel_on (e := (4, 35, m4_)) 4 rfl rfl (hon 4 (by kernel_rfl)) rfl
      rw [Q_X4_ (hon 4 (by kernel_rfl))] at e35
      replace ha := Aside0.mk ha
      have HD77 := Aside0.mk Q_HD77
      have O79 := Aside0.mk (Q_O79 (hon 3 (by kernel_rfl)))
      have O80 := Aside0.mk (Q_O80 (hon 3 (by kernel_rfl)))
      refine value_ (w1 := w') (v := .bool r38) (by rfl) rfl ?_ ?_
      · go_simp
        (try simp only [i64_w])
        try rfl
      refine hK.out _ _ ⟨A7r3_0_, c7r3_0_, A7r3_6_, c7r3_6_, g7r8_, g7r9_, m3_, m4_, m5_, m8_, m9_, (by rw [ha.out]; exact putSel_upk 7 hb_ rfl rfl rfl), Q_HD77, Q_O79, Q_O80, Q_BZ81, Q_Z83, Q_BZ84, Q_Z86, Q_BK82, Q_BK85, Q_X3_, Q_X4_, Q_X5_, Q_X8_, Q_X9_⟩
    refine steps_cons ?_ ?_
    · rintro b a w' ⟨A7r3_0_, c7r3_0_, A7r3_6_, c7r3_6_, g7r8_, g7r9_, m3_, m4_, m5_, m8_, m9_, ha, Q_HD77, Q_O79, Q_O80, Q_BZ81, Q_Z83, Q_BZ84, Q_Z86, Q_BK82, Q_BK85, Q_X3_, Q_X4_, Q_X5_, Q_X8_, Q_X9_⟩ hb_ hon hoff
      refine ⟨_, rfl, fun K hK => ?_⟩
      replace ha := Aside0.mk ha
      have HD77 := Aside0.mk Q_HD77
      refine box_step ?hg (N := 10) ?hd (cs := #[.slice none 0 0, .int .i64 0, .int .i64 0, .int .i64 0, .int .i64 0, .int .i64 0, .slice none 0 0]) (t := 70) ?hr ?_; (case hd => rfl); (case hg => rfl); (case hr => first | (go_simp; done) | (go_simp; rfl))
      intro g7r8_n hg wn8_ hbox hb
      refine hK.out _ _ ⟨A7r3_0_, c7r3_0_, A7r3_6_, c7r3_6_, g7r8_n, g7r9_, m3_, m4_, m5_, (.pointer (some ⟨g7r8_n, 0, none⟩)), m9_, (by rw [ha.out]; exact putSel_upk 8 hb_ rfl rfl rfl), below_step HD77.out hb, fun h0_ => Kd.S_below (Q_O79 h0_) hb, fun h0_ => Kd.R_below (Q_O80 h0_) hb, fun _ _ => hbox, fun _ => (by rw [hg]; exact below_size HD77.out), fun h0_ h1_ => blk_below (Q_BZ84 h0_ h1_) hb, Q_Z86, fun _ h1_ => absurd ((hoff 10 (by kernel_rfl)).symm.trans h1_) (by decide), fun _ h1_ => absurd ((hoff 11 (by kernel_rfl)).symm.trans h1_) (by decide), Q_X3_, Q_X4_, Q_X5_, fun _ => rfl, Q_X9_⟩
    refine steps_cons ?_ ?_
    · rintro b a w' ⟨A7r3_0_, c7r3_0_, A7r3_6_, c7r3_6_, g7r8_, g7r9_, m3_, m4_, m5_, m8_, m9_, ha, Q_HD77, Q_O79, Q_O80, Q_BZ81, Q_Z83, Q_BZ84, Q_Z86, Q_BK82, Q_BK85, Q_X3_, Q_X4_, Q_X5_, Q_X8_, Q_X9_⟩ hb_ hon hoff
      refine ⟨_, rfl, fun K hK => ?_⟩
      replace ha := Aside0.mk ha
      have HD77 := Aside0.mk Q_HD77
      refine box_step ?hg (N := 11) ?hd (cs := #[.int .i64 0, .int .i64 0, .int .i64 0, .int .i64 0]) (t := 32) ?hr ?_; (case hd => rfl); (case hg => rfl); (case hr => first | (go_simp; done) | (go_simp; rfl))
      intro g7r9_n hg wn9_ hbox hb
      refine hK.out _ _ ⟨A7r3_0_, c7r3_0_, A7r3_6_, c7r3_6_, g7r8_, g7r9_n, m3_, m4_, m5_, m8_, (.pointer (some ⟨g7r9_n, 0, none⟩)), (by rw [ha.out]; exact putSel_upk 9 hb_ rfl rfl rfl), below_step HD77.out hb, fun h0_ => Kd.S_below (Q_O79 h0_) hb, fun h0_ => Kd.R_below (Q_O80 h0_) hb, fun h0_ h1_ => blk_below (Q_BZ81 h0_ h1_) hb, Q_Z83, fun _ _ => hbox, fun _ => (by rw [hg]; exact below_size HD77.out), fun _ h1_ => absurd ((hoff 10 (by kernel_rfl)).symm.trans h1_) (by decide), fun _ h1_ => absurd ((hoff 11 (by kernel_rfl)).symm.trans h1_) (by decide), Q_X3_, Q_X4_, Q_X5_, Q_X8_, fun _ => rfl⟩
    refine steps_cons ?_ ?_
    · rintro b a w' ⟨A7r3_0_, c7r3_0_, A7r3_6_, c7r3_6_, g7r8_, g7r9_, m3_, m4_, m5_, m8_, m9_, ha, Q_HD77, Q_O79, Q_O80, Q_BZ81, Q_Z83, Q_BZ84, Q_Z86, Q_BK82, Q_BK85, Q_X3_, Q_X4_, Q_X5_, Q_X8_, Q_X9_⟩ hb_ hon hoff
      refine ⟨_, rfl, fun K hK => ?_⟩
      have e10 : a.tmps[10]? = some (m8_) := by rw [ha]; exact putSel_on (e := (8, 10, m8_)) 8 rfl rfl (hon 8 (by kernel_rfl)) rfl
      rw [Q_X8_ (hon 8 (by kernel_rfl))] at e10
      have e40 : a.tmps[40]? = some (m5_) := by rw [ha]; exact putSel_on (e := (5, 40, m5_)) 5 rfl rfl (hon 5 (by kernel_rfl)) rfl
      rw [Q_X5_ (hon 5 (by kernel_rfl))] at e40
      replace ha := Aside0.mk ha
      have HD77 := Aside0.mk Q_HD77
      have O79 := Aside0.mk (Q_O79 (hon 3 (by kernel_rfl)))
      have O80 := Aside0.mk (Q_O80 (hon 3 (by kernel_rfl)))
      have BZ81 := Aside0.mk (Q_BZ81 (hon 8 (by kernel_rfl)) hb_)
      have Z83 := Aside0.mk (Q_Z83 (hon 8 (by kernel_rfl)))
      have BZ84 := Aside0.mk (Q_BZ84 (hon 9 (by kernel_rfl)) (hoff 11 (by kernel_rfl)))
      have Z86 := Aside0.mk (Q_Z86 (hon 9 (by kernel_rfl)))
      have hs0_ : w'.cell? ⟨g7r8_, 0, none⟩ = some (.slice none 0 0) := (blk_cell BZ81.out 0).trans rfl
      have hf0_ := blk_frozen BZ81.out 0
      have hs1_ : w'.cell? ⟨g7r8_, 1, none⟩ = some (.int .i64 0) := (blk_cell BZ81.out 1).trans rfl
      have hf1_ := blk_frozen BZ81.out 1
      have hs2_ : w'.cell? ⟨g7r8_, 2, none⟩ = some (.int .i64 0) := (blk_cell BZ81.out 2).trans rfl
      have hf2_ := blk_frozen BZ81.out 2
      have hs3_ : w'.cell? ⟨g7r8_, 3, none⟩ = some (.int .i64 0) := (blk_cell BZ81.out 3).trans rfl
      have hf3_ := blk_frozen BZ81.out 3
      have hs4_ : w'.cell? ⟨g7r8_, 4, none⟩ = some (.int .i64 0) := (blk_cell BZ81.out 4).trans rfl
      have hf4_ := blk_frozen BZ81.out 4
      have hs5_ : w'.cell? ⟨g7r8_, 5, none⟩ = some (.int .i64 0) := (blk_cell BZ81.out 5).trans rfl
      have hf5_ := blk_frozen BZ81.out 5
      have hs6_ : w'.cell? ⟨g7r8_, 6, none⟩ = some (.slice none 0 0) := (blk_cell BZ81.out 6).trans rfl
      have hf6_ := blk_frozen BZ81.out 6
      have hl_ := blk_lt BZ81.out
      refine skip_ (w1 := ?_) (by rfl) rfl ?_ ?_
      rotate_left
      · go_simp
        rfl
      have hnew_ : ((World.setCell (World.setCell (World.setCell (World.setCell (World.setCell (World.setCell (World.setCell w' ⟨g7r8_, 0, none⟩ (.slice A7r3_0_ r27.length c7r3_0_)) ⟨g7r8_, 1, none⟩ (.int .i64 r28)) ⟨g7r8_, 2, none⟩ (.int .i64 r29)) ⟨g7r8_, 3, none⟩ (.int .i64 r30)) ⟨g7r8_, 4, none⟩ (.int .i64 r31)) ⟨g7r8_, 5, none⟩ (.int .i64 r32)) ⟨g7r8_, 6, none⟩ (.slice A7r3_6_ r33.length c7r3_6_))).heap[g7r8_]? = some (.cells #[.slice A7r3_0_ r27.length c7r3_0_, .int .i64 r28, .int .i64 r29, .int .i64 r30, .int .i64 r31, .int .i64 r32, .slice A7r3_6_ r33.length c7r3_6_] 70 (0, 0)) := (blk_put (cs := #[.slice A7r3_0_ r27.length c7r3_0_, .int .i64 r28, .int .i64 r29, .int .i64 r30, .int .i64 r31, .int .i64 r32, .slice none 0 0]) (cs' := #[.slice A7r3_0_ r27.length c7r3_0_, .int .i64 r28, .int .i64 r29, .int .i64 r30, .int .i64 r31, .int .i64 r32, .slice A7r3_6_ r33.length c7r3_6_]) (blk_put (cs := #[.slice A7r3_0_ r27.length c7r3_0_, .int .i64 r28, .int .i64 r29, .int .i64 r30, .int .i64 r31, .int .i64 0, .slice none 0 0]) (cs' := #[.slice A7r3_0_ r27.length c7r3_0_, .int .i64 r28, .int .i64 r29, .int .i64 r30, .int .i64 r31, .int .i64 r32, .slice none 0 0]) (blk_put (cs := #[.slice A7r3_0_ r27.length c7r3_0_, .int .i64 r28, .int .i64 r29, .int .i64 r30, .int .i64 0, .int .i64 0, .slice none 0 0]) (cs' := #[.slice A7r3_0_ r27.length c7r3_0_, .int .i64 r28, .int .i64 r29, .int .i64 r30, .int .i64 r31, .int .i64 0, .slice none 0 0]) (blk_put (cs := #[.slice A7r3_0_ r27.length c7r3_0_, .int .i64 r28, .int .i64 r29, .int .i64 0, .int .i64 0, .int .i64 0, .slice none 0 0]) (cs' := #[.slice A7r3_0_ r27.length c7r3_0_, .int .i64 r28, .int .i64 r29, .int .i64 r30, .int .i64 0, .int .i64 0, .slice none 0 0]) (blk_put (cs := #[.slice A7r3_0_ r27.length c7r3_0_, .int .i64 r28, .int .i64 0, .int .i64 0, .int .i64 0, .int .i64 0, .slice none 0 0]) (cs' := #[.slice A7r3_0_ r27.length c7r3_0_, .int .i64 r28, .int .i64 r29, .int .i64 0, .int .i64 0, .int .i64 0, .slice none 0 0]) (blk_put (cs := #[.slice A7r3_0_ r27.length c7r3_0_, .int .i64 0, .int .i64 0, .int .i64 0, .int .i64 0, .int .i64 0, .slice none 0 0]) (cs' := #[.slice A7r3_0_ r27.length c7r3_0_, .int .i64 r28, .int .i64 0, .int .i64 0, .int .i64 0, .int .i64 0, .slice none 0 0]) (blk_put (cs := #[.slice none 0 0, .int .i64 0, .int .i64 0, .int .i64 0, .int .i64 0, .int .i64 0, .slice none 0 0]) (cs' := #[.slice A7r3_0_ r27.length c7r3_0_, .int .i64 0, .int .i64 0, .int .i64 0, .int .i64 0, .int .i64 0, .slice none 0 0]) BZ81.out 0 (.slice A7r3_0_ r27.length c7r3_0_) rfl) 1 (.int .i64 r28) rfl) 2 (.int .i64 r29) rfl) 3 (.int .i64 r30) rfl) 4 (.int .i64 r31) rfl) 5 (.int .i64 r32) rfl) 6 (.slice A7r3_6_ r33.length c7r3_6_) rfl)
      have hg_ : w'.grownBy (World.setCell (World.setCell (World.setCell (World.setCell (World.setCell (World.setCell (World.setCell w' ⟨g7r8_, 0, none⟩ (.slice A7r3_0_ r27.length c7r3_0_)) ⟨g7r8_, 1, none⟩ (.int .i64 r28)) ⟨g7r8_, 2, none⟩ (.int .i64 r29)) ⟨g7r8_, 3, none⟩ (.int .i64 r30)) ⟨g7r8_, 4, none⟩ (.int .i64 r31)) ⟨g7r8_, 5, none⟩ (.int .i64 r32)) ⟨g7r8_, 6, none⟩ (.slice A7r3_6_ r33.length c7r3_6_)) (some g7r8_) := grown_set_ (grown_set_ (grown_set_ (grown_set_ (grown_set_ (grown_set_ (grown_set_ (World.grownBy.refl _ _) _ _) _ _) _ _) _ _) _ _) _ _) _ _
      generalize (World.setCell (World.setCell (World.setCell (World.setCell (World.setCell (World.setCell (World.setCell w' ⟨g7r8_, 0, none⟩ (.slice A7r3_0_ r27.length c7r3_0_)) ⟨g7r8_, 1, none⟩ (.int .i64 r28)) ⟨g7r8_, 2, none⟩ (.int .i64 r29)) ⟨g7r8_, 3, none⟩ (.int .i64 r30)) ⟨g7r8_, 4, none⟩ (.int .i64 r31)) ⟨g7r8_, 5, none⟩ (.int .i64 r32)) ⟨g7r8_, 6, none⟩ (.slice A7r3_6_ r33.length c7r3_6_)) = wn10_ at hnew_ hg_ ⊢
      refine hK.out _ _ ⟨A7r3_0_, c7r3_0_, A7r3_6_, c7r3_6_, g7r8_, g7r9_, m3_, m4_, m5_, m8_, m9_, (by rw [ha.out]; exact putSel_none (v := undef) rfl), below_grown_ HD77.out hg_ Z83.out, fun _ => Kd.S_mono (Kd.S_grown (Kd.S_types O79.out BZ81.out (by decide)) hg_ (fun k_ hk_ e_ => hk_.2 (Option.some.inj e_))) (fun _ h_ => h_.1), fun _ => Kd.R_mono (Kd.R_grown (Kd.R_types O80.out BZ81.out (by decide)) hg_ (fun k_ hk_ e_ => hk_.2 (Option.some.inj e_))) (fun _ h_ => h_.1), fun _ h1_ => absurd ((up_self b 10).symm.trans h1_) (by decide), Q_Z83, fun _ _ => blk_grown BZ84.out hg_ (fun e_ => Blk_ne BZ84.out BZ81.out (by decide) (Option.some.inj e_)), Q_Z86, fun _ _ => hnew_, fun _ h1_ => absurd ((hoff 11 (by kernel_rfl)).symm.trans h1_) (by decide), Q_X3_, Q_X4_, Q_X5_, Q_X8_, Q_X9_⟩
    refine steps_cons ?_ ?_
    · rintro b a w' ⟨A7r3_0_, c7r3_0_, A7r3_6_, c7r3_6_, g7r8_, g7r9_, m3_, m4_, m5_, m8_, m9_, ha, Q_HD77, Q_O79, Q_O80, Q_BZ81, Q_Z83, Q_BZ84, Q_Z86, Q_BK82, Q_BK85, Q_X3_, Q_X4_, Q_X5_, Q_X8_, Q_X9_⟩ hb_ hon hoff
      refine ⟨_, rfl, fun K hK => ?_⟩
      have e11 : a.tmps[11]? = some (m9_) := by rw [ha]; exact putSel_on (e := (9, 11, m9_)) 9 rfl rfl (hon 9 (by kernel_rfl)) rfl
      rw [Q_X9_ (hon 9 (by kernel_rfl))] at e11
      have e41 : a.tmps[41]? = some (.agg #[.int .i64 r34, .int .i64 r35, .int .i64 r36, .int .i64 r37]) := by rw [ha]; exact putSel_on (e := (6, 41, .agg #[.int .i64 r34, .int .i64 r35, .int .i64 r36, .int .i64 r37])) 6 rfl rfl (hon 6 (by kernel_rfl)) rfl
      replace ha := Aside0.mk ha
      have HD77 := Aside0.mk Q_HD77
      have O79 := Aside0.mk (Q_O79 (hon 3 (by kernel_rfl)))
      have O80 := Aside0.mk (Q_O80 (hon 3 (by kernel_rfl)))
      have Z83 := Aside0.mk (Q_Z83 (hon 8 (by kernel_rfl)))
      have BZ84 := Aside0.mk (Q_BZ84 (hon 9 (by kernel_rfl)) hb_)
      have Z86 := Aside0.mk (Q_Z86 (hon 9 (by kernel_rfl)))
      have BK82 := Aside0.mk (Q_BK82 (hon 8 (by kernel_rfl)) (hon 10 (by kernel_rfl)))
      have hs0_ : w'.cell? ⟨g7r9_, 0, none⟩ = some (.int .i64 0) := (blk_cell BZ84.out 0).trans rfl
      have hf0_ := blk_frozen BZ84.out 0
      have hs1_ : w'.cell? ⟨g7r9_, 1, none⟩ = some (.int .i64 0) := (blk_cell BZ84.out 1).trans rfl
      have hf1_ := blk_frozen BZ84.out 1
      have hs2_ : w'.cell? ⟨g7r9_, 2, none⟩ = some (.int .i64 0) := (blk_cell BZ84.out 2).trans rfl
      have hf2_ := blk_frozen BZ84.out 2
      have hs3_ : w'.cell? ⟨g7r9_, 3, none⟩ = some (.int .i64 0) := (blk_cell BZ84.out 3).trans rfl
      have hf3_ := blk_frozen BZ84.out 3
      have hl_ := blk_lt BZ84.out
      refine skip_ (w1 := ?_) (by rfl) rfl ?_ ?_
      rotate_left
      · go_simp
        rfl
      have hnew_ : ((World.setCell (World.setCell (World.setCell (World.setCell w' ⟨g7r9_, 0, none⟩ (.int .i64 r34)) ⟨g7r9_, 1, none⟩ (.int .i64 r35)) ⟨g7r9_, 2, none⟩ (.int .i64 r36)) ⟨g7r9_, 3, none⟩ (.int .i64 r37))).heap[g7r9_]? = some (.cells #[.int .i64 r34, .int .i64 r35, .int .i64 r36, .int .i64 r37] 32 (0, 0)) := (blk_put (cs := #[.int .i64 r34, .int .i64 r35, .int .i64 r36, .int .i64 0]) (cs' := #[.int .i64 r34, .int .i64 r35, .int .i64 r36, .int .i64 r37]) (blk_put (cs := #[.int .i64 r34, .int .i64 r35, .int .i64 0, .int .i64 0]) (cs' := #[.int .i64 r34, .int .i64 r35, .int .i64 r36, .int .i64 0]) (blk_put (cs := #[.int .i64 r34, .int .i64 0, .int .i64 0, .int .i64 0]) (cs' := #[.int .i64 r34, .int .i64 r35, .int .i64 0, .int .i64 0]) (blk_put (cs := #[.int .i64 0, .int .i64 0, .int .i64 0, .int .i64 0]) (cs' := #[.int .i64 r34, .int .i64 0, .int .i64 0, .int .i64 0]) BZ84.out 0 (.int .i64 r34) rfl) 1 (.int .i64 r35) rfl) 2 (.int .i64 r36) rfl) 3 (.int .i64 r37) rfl)
      have hg_ : w'.grownBy (World.setCell (World.setCell (World.setCell (World.setCell w' ⟨g7r9_, 0, none⟩ (.int .i64 r34)) ⟨g7r9_, 1, none⟩ (.int .i64 r35)) ⟨g7r9_, 2, none⟩ (.int .i64 r36)) ⟨g7r9_, 3, none⟩ (.int .i64 r37)) (some g7r9_) := grown_set_ (grown_set_ (grown_set_ (grown_set_ (World.grownBy.refl _ _) _ _) _ _) _ _) _ _
      generalize (World.setCell (World.setCell (World.setCell (World.setCell w' ⟨g7r9_, 0, none⟩ (.int .i64 r34)) ⟨g7r9_, 1, none⟩ (.int .i64 r35)) ⟨g7r9_, 2, none⟩ (.int .i64 r36)) ⟨g7r9_, 3, none⟩ (.int .i64 r37)) = wn11_ at hnew_ hg_ ⊢
      refine hK.out _ _ ⟨A7r3_0_, c7r3_0_, A7r3_6_, c7r3_6_, g7r8_, g7r9_, m3_, m4_, m5_, m8_, m9_, (by rw [ha.out]; exact putSel_none (v := undef) rfl), below_grown_ HD77.out hg_ Z86.out, fun _ => Kd.S_mono (Kd.S_grown (Kd.S_types O79.out BZ84.out (by decide)) hg_ (fun k_ hk_ e_ => hk_.2 (Option.some.inj e_))) (fun _ h_ => h_.1), fun _ => Kd.R_mono (Kd.R_grown (Kd.R_types O80.out BZ84.out (by decide)) hg_ (fun k_ hk_ e_ => hk_.2 (Option.some.inj e_))) (fun _ h_ => h_.1), fun _ h1_ => absurd ((hon 10 (by kernel_rfl)).symm.trans h1_) (by decide), Q_Z83, fun _ h1_ => absurd ((up_self b 11).symm.trans h1_) (by decide), Q_Z86, fun _ _ => blk_grown BK82.out hg_ (fun e_ => Blk_ne BK82.out BZ84.out (by decide) (Option.some.inj e_)), fun _ _ => hnew_, Q_X3_, Q_X4_, Q_X5_, Q_X8_, Q_X9_⟩
    refine steps_cons ?_ ?_
    · rintro b a w' ⟨A7r3_0_, c7r3_0_, A7r3_6_, c7r3_6_, g7r8_, g7r9_, m3_, m4_, m5_, m8_, m9_, ha, Q_HD77, Q_O79, Q_O80, Q_BZ81, Q_Z83, Q_BZ84, Q_Z86, Q_BK82, Q_BK85, Q_X3_, Q_X4_, Q_X5_, Q_X8_, Q_X9_⟩ hb_ hon hoff
      refine ⟨_, rfl, fun K hK => ?_⟩
      have e42 : a.tmps[42]? = some (.bool r38) := by rw [ha]; exact putSel_on (e := (7, 42, .bool r38)) 7 rfl rfl (hon 7 (by kernel_rfl)) rfl
      replace ha := Aside0.mk ha
      have HD77 := Aside0.mk Q_HD77
      have O79 := Aside0.mk (Q_O79 (hon 3 (by kernel_rfl)))
      have O80 := Aside0.mk (Q_O80 (hon 3 (by kernel_rfl)))
      have Z83 := Aside0.mk (Q_Z83 (hon 8 (by kernel_rfl)))
      have Z86 := Aside0.mk (Q_Z86 (hon 9 (by kernel_rfl)))
      have BK82 := Aside0.mk (Q_BK82 (hon 8 (by kernel_rfl)) (hon 10 (by kernel_rfl)))
      have BK85 := Aside0.mk (Q_BK85 (hon 9 (by kernel_rfl)) (hon 11 (by kernel_rfl)))
      refine value_ (w1 := w') (v := .bool r38) (by rfl) rfl ?_ ?_
      · go_simp
        (try simp only [i64_w])
        try rfl
      refine hK.out _ _ ⟨A7r3_0_, c7r3_0_, A7r3_6_, c7r3_6_, g7r8_, g7r9_, m3_, m4_, m5_, m8_, m9_, (by rw [ha.out]; exact putSel_upk 10 hb_ rfl rfl rfl), Q_HD77, Q_O79, Q_O80, fun _ h1_ => absurd ((hon 10 (by kernel_rfl)).symm.trans h1_) (by decide), Q_Z83, fun _ h1_ => absurd ((hon 11 (by kernel_rfl)).symm.trans h1_) (by decide), Q_Z86, Q_BK82, Q_BK85, Q_X3_, Q_X4_, Q_X5_, Q_X8_, Q_X9_⟩
    exact steps_nil
  rintro b a w87 hall ⟨A7r3_0_, c7r3_0_, A7r3_6_, c7r3_6_, g7r8_, g7r9_, m3_, m4_, m5_, m8_, m9_, ha, Q_HD77, Q_O79, Q_O80, Q_BZ81, Q_Z83, Q_BZ84, Q_Z86, Q_BK82, Q_BK85, Q_X3_, Q_X4_, Q_X5_, Q_X8_, Q_X9_⟩
  clear HD77
  have hb0_ := hall 0 (by kernel_rfl)
  have hb1_ := hall 1 (by kernel_rfl)
  have hb2_ := hall 2 (by kernel_rfl)
  have hb3_ := hall 3 (by kernel_rfl)
  have hb4_ := hall 4 (by kernel_rfl)
  have hb5_ := hall 5 (by kernel_rfl)
  have hb6_ := hall 6 (by kernel_rfl)
  have hb7_ := hall 7 (by kernel_rfl)
  have hb8_ := hall 8 (by kernel_rfl)
  have hb9_ := hall 9 (by kernel_rfl)
  have hb10_ := hall 10 (by kernel_rfl)
  have hb11_ := hall 11 (by kernel_rfl)
  have hb12_ := hall 12 (by kernel_rfl)
  subst ha
  obtain rfl := Q_X3_ hb3_
  obtain rfl := Q_X4_ hb4_
  obtain rfl := Q_X5_ hb5_
  obtain rfl := Q_X8_ hb8_
  obtain rfl := Q_X9_ hb9_
  simp only [putSel, hb0_, hb1_, hb2_, hb3_, hb4_, hb5_, hb6_, hb7_, hb8_, hb9_, hb10_, hb11_, hb12_, if_true, Act.put, List.setIfInBounds_toArray, List.set_cons_zero, List.set_cons_succ]
  have HD77 := Aside0.mk Q_HD77
  clear Q_HD77
  have O79 := Aside0.mk (Q_O79 hb3_)
  clear Q_O79
  have O80 := Aside0.mk (Q_O80 hb3_)
  clear Q_O80
  clear Q_BZ81
  have Z83 := Aside0.mk (Q_Z83 hb8_)
  clear Q_Z83
  clear Q_BZ84
  have Z86 := Aside0.mk (Q_Z86 hb9_)
  clear Q_Z86
  have BK82 := Aside0.mk (Q_BK82 hb8_ hb10_)
  clear Q_BK82
  have BK85 := Aside0.mk (Q_BK85 hb9_ hb11_)
  clear Q_BK85
  clear hall hb0_ hb1_ hb2_ hb3_ hb4_ hb5_ hb6_ hb7_ hb8_ hb9_ hb10_ hb11_ hb12_
  replace BK1 := Aside0.mk (blk_below BK1.out HD77.out)
  replace BK2 := Aside0.mk (blk_below BK2.out HD77.out)
  replace O40 := Aside0.mk (Kd.S_below O40.out HD77.out)
  replace O41 := Aside0.mk (Kd.R_below O41.out HD77.out)
  replace BK43 := Aside0.mk (blk_below BK43.out HD77.out)
  replace BK46 := Aside0.mk (blk_below BK46.out HD77.out)
  replace O67 := Aside0.mk (Kd.S_below O67.out HD77.out)
  replace O70 := Aside0.mk (Kd.R_below O70.out HD77.out)
  replace BK72 := Aside0.mk (blk_below BK72.out HD77.out)
  replace O79 := Aside0.mk (show Kd.S (Kd.slice 5 (Kd.int .u8)) 29 w87 w.heap.size (Seg w75.heap.size w87.heap.size w87 [29, 5]) (.slice A7r3_0_ r27.length c7r3_0_) r27 from Kd.S_lower (Kd.S_mono (Kd.S_bound O79.out) (fun k_ hk => ⟨hk.2.1, hk.2.2.1, hk.2.2.2⟩)) (below_size HB.out))
  replace O80 := Aside0.mk (show Kd.R (Kd.int .i64) 3 w87 w.heap.size (Seg w75.heap.size w87.heap.size w87 [3]) (.slice A7r3_6_ r33.length c7r3_6_) r33 from Kd.R_lower (Kd.R_mono (Kd.R_bound O80.out) (fun k_ hk => ⟨hk.2.1, hk.2.2.1, hk.2.2.2⟩)) (below_size HB.out))
  replace HB := Aside0.mk (below_step HB.out HD77.out)
  have Z88 := Aside0.mk (below_size HD77.out)
  clear HD77
  have Z89 := Aside0.mk (blk_lt BK82.out)
  have NS90 := Aside0.mk (show ¬ Seg w75.heap.size w87.heap.size w87 [29, 5] g7r8_ from fun hs_ => Ty_not hs_.2.2 BK82.out (by decide))
  have NS91 := Aside0.mk (show ¬ Seg w75.heap.size w87.heap.size w87 [3] g7r8_ from fun hs_ => Ty_not hs_.2.2 BK82.out (by decide))
  have Z92 := Aside0.mk (blk_lt BK85.out)
  have NS93 := Aside0.mk (show ¬ Seg w75.heap.size w87.heap.size w87 [29, 5] g7r9_ from fun hs_ => Ty_not hs_.2.2 BK85.out (by decide))
  have NS94 := Aside0.mk (show ¬ Seg w75.heap.size w87.heap.size w87 [3] g7r9_ from fun hs_ => Ty_not hs_.2.2 BK85.out (by decide))
  have hz95 : w87.cell? ⟨g7r8_, 0, none⟩ = some (.slice A7r3_0_ r27.length c7r3_0_) := (blk_cell BK82.out 0).trans rfl
  have hz96 : w87.cell? ⟨g7r8_, 1, none⟩ = some (.int .i64 r28) := (blk_cell BK82.out 1).trans rfl
  have hz97 : w87.cell? ⟨g7r8_, 2, none⟩ = some (.int .i64 r29) := (blk_cell BK82.out 2).trans rfl
  have hz98 : w87.cell? ⟨g7r8_, 3, none⟩ = some (.int .i64 r30) := (blk_cell BK82.out 3).trans rfl
  have hz99 : w87.cell? ⟨g7r8_, 4, none⟩ = some (.int .i64 r31) := (blk_cell BK82.out 4).trans rfl
  have hz100 : w87.cell? ⟨g7r8_, 5, none⟩ = some (.int .i64 r32) := (blk_cell BK82.out 5).trans rfl
  have hz101 : w87.cell? ⟨g7r8_, 6, none⟩ = some (.slice A7r3_6_ r33.length c7r3_6_) := (blk_cell BK82.out 6).trans rfl
  have hl102 : g7r8_ < w87.heap.size := blk_lt BK82.out
  have hz103 : w87.cell? ⟨g5r9_, 0, none⟩ = some (.slice A5r4_0_ r27.length c5r4_0_) := (blk_cell BK43.out 0).trans rfl
  have hz104 : w87.cell? ⟨g5r9_, 1, none⟩ = some (.int .i64 r28) := (blk_cell BK43.out 1).trans rfl
  have hz105 : w87.cell? ⟨g5r9_, 2, none⟩ = some (.int .i64 r29) := (blk_cell BK43.out 2).trans rfl
  have hz106 : w87.cell? ⟨g5r9_, 3, none⟩ = some (.int .i64 r30) := (blk_cell BK43.out 3).trans rfl
  have hz107 : w87.cell? ⟨g5r9_, 4, none⟩ = some (.int .i64 r31) := (blk_cell BK43.out 4).trans rfl
  have hz108 : w87.cell? ⟨g5r9_, 5, none⟩ = some (.int .i64 r32) := (blk_cell BK43.out 5).trans rfl
  have hz109 : w87.cell? ⟨g5r9_, 6, none⟩ = some (.slice A5r4_6_ r33.length c5r4_6_) := (blk_cell BK43.out 6).trans rfl
  have hl110 : g5r9_ < w87.heap.size := blk_lt BK43.out
  go_wp2_with fail
  clear hz95 hz96 hz97 hz98 hz99 hz100 hz101 hl102 hz103 hz104 hz105 hz106 hz107 hz108 hz109 hl110
  refine (laws_eqArena.calls k A7r3_0_ c7r3_0_ r27 r28 r29 r30 r31 r32 A7r3_6_ c7r3_6_ r33 A5r4_0_ c5r4_0_ r27 r28 r29 r30 r31 r32 A5r4_6_ c5r4_6_ r33 true w87 (Kd.S_reads' O79.out).2.2 (Kd.S_reads' O79.out).2.1 (Kd.R_reads' O80.out).2.2 (Kd.R_reads' O80.out).2.1 (Kd.S_reads' O40.out).2.2 (Kd.S_reads' O40.out).2.1 (Kd.R_reads' O41.out).2.2 (Kd.R_reads' O41.out).2.1 e112.out).mono ?_
  rintro e w111 ⟨rfl, hb⟩
  replace BK1 := Aside0.mk (blk_below BK1.out hb)
  replace BK2 := Aside0.mk (blk_below BK2.out hb)
  replace O40 := Aside0.mk (Kd.S_below O40.out hb)
  replace O41 := Aside0.mk (Kd.R_below O41.out hb)
  replace BK43 := Aside0.mk (blk_below BK43.out hb)
  replace BK46 := Aside0.mk (blk_below BK46.out hb)
  replace O67 := Aside0.mk (Kd.S_below O67.out hb)
  replace O70 := Aside0.mk (Kd.R_below O70.out hb)
  replace BK72 := Aside0.mk (blk_below BK72.out hb)
  replace O79 := Aside0.mk (Kd.S_below O79.out hb)
  replace O80 := Aside0.mk (Kd.R_below O80.out hb)
  replace BK82 := Aside0.mk (blk_below BK82.out hb)
  replace BK85 := Aside0.mk (blk_below BK85.out hb)
  have Z113 := Aside0.mk (below_size hb)
  replace HB := Aside0.mk (below_step HB.out hb)
  clear hb 
  have hz114 : w111.cell? ⟨g7r9_, 0, none⟩ = some (.int .i64 r34) := (blk_cell BK85.out 0).trans rfl
  have hz115 : w111.cell? ⟨g7r9_, 1, none⟩ = some (.int .i64 r35) := (blk_cell BK85.out 1).trans rfl
  have hz116 : w111.cell? ⟨g7r9_, 2, none⟩ = some (.int .i64 r36) := (blk_cell BK85.out 2).trans rfl
  have hz117 : w111.cell? ⟨g7r9_, 3, none⟩ = some (.int .i64 r37) := (blk_cell BK85.out 3).trans rfl
  have hl118 : g7r9_ < w111.heap.size := blk_lt BK85.out
  have hz119 : w111.cell? ⟨g5r10_, 0, none⟩ = some (.int .i64 r34) := (blk_cell BK46.out 0).trans rfl
  have hz120 : w111.cell? ⟨g5r10_, 1, none⟩ = some (.int .i64 r35) := (blk_cell BK46.out 1).trans rfl
  have hz121 : w111.cell? ⟨g5r10_, 2, none⟩ = some (.int .i64 r36) := (blk_cell BK46.out 2).trans rfl
  have hz122 : w111.cell? ⟨g5r10_, 3, none⟩ = some (.int .i64 r37) := (blk_cell BK46.out 3).trans rfl
  have hl123 : g5r10_ < w111.heap.size := blk_lt BK46.out
  go_wp2_with fail
  clear hz114 hz115 hz116 hz117 hl118 hz119 hz120 hz121 hz122 hl123
  refine (laws_eqWindow.calls r34 r35 r36 r37 r34 r35 r36 r37 true w111  e125.out).mono ?_
  rintro e w124 ⟨rfl, hb⟩
  replace BK1 := Aside0.mk (blk_below BK1.out hb)
  replace BK2 := Aside0.mk (blk_below BK2.out hb)
  replace O40 := Aside0.mk (Kd.S_below O40.out hb)
  replace O41 := Aside0.mk (Kd.R_below O41.out hb)
  replace BK43 := Aside0.mk (blk_below BK43.out hb)
  replace BK46 := Aside0.mk (blk_below BK46.out hb)
  replace O67 := Aside0.mk (Kd.S_below O67.out hb)
  replace O70 := Aside0.mk (Kd.R_below O70.out hb)
  replace BK72 := Aside0.mk (blk_below BK72.out hb)
  replace O79 := Aside0.mk (Kd.S_below O79.out hb)
  replace O80 := Aside0.mk (Kd.R_below O80.out hb)
  replace BK82 := Aside0.mk (blk_below BK82.out hb)
  replace BK85 := Aside0.mk (blk_below BK85.out hb)
  have Z126 := Aside0.mk (below_size hb)
  replace HB := Aside0.mk (below_step HB.out hb)
  clear hb 
  go_wp2_with fail
  refine start_ (n := 5) (S := fun w' => w'.cell? ⟨w64.heap.size, 0, none⟩ = some (.slice A65 r14.length c66) ∧ w'.cell? ⟨w64.heap.size, 1, none⟩ = some (.int .i64 r15) ∧ w'.cell? ⟨w64.heap.size, 2, none⟩ = some (.int .i64 r16) ∧ w'.cell? ⟨w64.heap.size, 3, none⟩ = some (.int .i64 r17) ∧ w'.cell? ⟨w64.heap.size, 4, none⟩ = some (.int .i64 r18) ∧ w'.cell? ⟨w64.heap.size, 5, none⟩ = some (.int .i64 r19) ∧ w'.cell? ⟨w64.heap.size, 6, none⟩ = some (.slice A68 r20.length c69) ∧ w'.cell? ⟨w.heap.size, 0, none⟩ = some (.slice A0_0 l0_0.length c0_0) ∧ w'.cell? ⟨w.heap.size, 1, none⟩ = some (.int .i64 a0_1) ∧ w'.cell? ⟨w.heap.size, 2, none⟩ = some (.int .i64 a0_2) ∧ w'.cell? ⟨w.heap.size, 3, none⟩ = some (.int .i64 a0_3) ∧ w'.cell? ⟨w.heap.size, 4, none⟩ = some (.int .i64 a0_4) ∧ w'.cell? ⟨w.heap.size, 5, none⟩ = some (.int .i64 a0_5) ∧ w'.cell? ⟨w.heap.size, 6, none⟩ = some (.slice A0_6 l0_6.length c0_6)) (ds := []) #[false, false, false, false, false] (by kernel_rfl) rfl rfl ⟨(blk_cell BK72.out 0).trans rfl, (blk_cell BK72.out 1).trans rfl, (blk_cell BK72.out 2).trans rfl, (blk_cell BK72.out 3).trans rfl, (blk_cell BK72.out 4).trans rfl, (blk_cell BK72.out 5).trans rfl, (blk_cell BK72.out 6).trans rfl, (blk_cell BK1.out 0).trans rfl, (blk_cell BK1.out 1).trans rfl, (blk_cell BK1.out 2).trans rfl, (blk_cell BK1.out 3).trans rfl, (blk_cell BK1.out 4).trans rfl, (blk_cell BK1.out 5).trans rfl, (blk_cell BK1.out 6).trans rfl⟩ (fun hHeld => ?_)
  replace BK1 := Aside0.mk (blk_drew BK1.out)
  replace BK2 := Aside0.mk (blk_drew BK2.out)
  replace O40 := Aside0.mk (Kd.S_drew O40.out)
  replace O41 := Aside0.mk (Kd.R_drew O41.out)
  replace BK43 := Aside0.mk (blk_drew BK43.out)
  replace BK46 := Aside0.mk (blk_drew BK46.out)
  replace O67 := Aside0.mk (Kd.S_drew O67.out)
  replace O70 := Aside0.mk (Kd.R_drew O70.out)
  replace BK72 := Aside0.mk (blk_drew BK72.out)
  replace O79 := Aside0.mk (Kd.S_drew O79.out)
  replace O80 := Aside0.mk (Kd.R_drew O80.out)
  replace BK82 := Aside0.mk (blk_drew BK82.out)
  replace BK85 := Aside0.mk (blk_drew BK85.out)
  replace HB := Aside0.mk (below_drew1 HB.out)
  have Z128 := Aside0.mk (show w124.heap.size ≤ w124.drew.heap.size from Nat.le_refl _)
  generalize w124.drew = w127 at BK1 BK2 O40 O41 BK43 BK46 O67 O70 BK72 O79 O80 BK82 BK85 HB Z128 hHeld ⊢
  refine take_ (i := 0) (N := some 58) (v := ?_) (a' := ?_) #[true, false, false, false, false] rfl rfl (by kernel_rfl) (fun _ _ _ h => h) (Or.inl ⟨by rfl, ?_⟩) hHeld ?_ ?_
  rotate_left
  · rintro w' ⟨s0, s1, s2, s3, s4, s5, s6, s7, s8, s9, s10, s11, s12, s13⟩
    go_simp
    with_reducible rfl
  rotate_left
  · simp only [Act.put, List.setIfInBounds_toArray, List.set_cons_zero, List.set_cons_succ, i64_w, i32_w]
    rfl
  refine take_ (i := 1) (N := some 59) (v := ?_) (a' := ?_) #[true, true, false, false, false] rfl rfl (by kernel_rfl) (fun _ _ _ h => h) (Or.inl ⟨by rfl, ?_⟩) hHeld ?_ ?_
  rotate_left
  · rintro w' ⟨s0, s1, s2, s3, s4, s5, s6, s7, s8, s9, s10, s11, s12, s13⟩
    go_simp
    with_reducible rfl
  rotate_left
  · simp only [Act.put, List.setIfInBounds_toArray, List.set_cons_zero, List.set_cons_succ, i64_w, i32_w]
    rfl
  refine one_ (i := 2) (N := some 60) #[true, true, true, false, false] rfl rfl (by kernel_rfl) (by decide) (fun K hK => ?_)
  refine goes_ Try.func37 (by kernel_rfl) rfl #[.agg #[.slice A0_0 l0_0.length c0_0, .int .i64 a0_1, .int .i64 a0_2, .int .i64 a0_3, .int .i64 a0_4, .int .i64 a0_5, .slice A0_6 l0_6.length c0_6]] (by rfl) rfl rfl (by (try simp only [List.map_toArray, List.map_cons, List.map_nil]); first | done | rfl) ?_
  with_reducible refine (laws_toArena.calls k A0_0 c0_0 l0_0 a0_1 a0_2 a0_3 a0_4 a0_5 A0_6 c0_6 l0_6 r14 r15 r16 r17 r18 r19 r20 w127 (Kd.C_below HR0_0.out HB.out) HC0_0.out (Kd.C_below HR0_6.out HB.out) HC0_6.out e21.out).mono ?_
  rintro e w129 ⟨v0_w129, v6_w129, rfl, h0_w129, h6_w129, hb⟩
  refine ⟨_, rfl, ?_⟩
  replace BK1 := Aside0.mk (blk_below BK1.out hb)
  replace BK2 := Aside0.mk (blk_below BK2.out hb)
  replace O40 := Aside0.mk (Kd.S_below O40.out hb)
  replace O41 := Aside0.mk (Kd.R_below O41.out hb)
  replace BK43 := Aside0.mk (blk_below BK43.out hb)
  replace BK46 := Aside0.mk (blk_below BK46.out hb)
  replace O67 := Aside0.mk (Kd.S_below O67.out hb)
  replace O70 := Aside0.mk (Kd.R_below O70.out hb)
  replace BK72 := Aside0.mk (blk_below BK72.out hb)
  replace O79 := Aside0.mk (Kd.S_below O79.out hb)
  replace O80 := Aside0.mk (Kd.R_below O80.out hb)
  replace BK82 := Aside0.mk (blk_below BK82.out hb)
  replace BK85 := Aside0.mk (blk_below BK85.out hb)
  obtain ⟨A130, c131, rfl⟩ := Kd.S_slice h0_w129
  have O132 := Aside0.mk (show Kd.S (Kd.slice 5 (Kd.int .u8)) 29 w129 w.heap.size (Seg w127.heap.size w129.heap.size w129 [29, 5]) (.slice A130 r14.length c131) r14 from Kd.S_lower (Kd.S_mono (Kd.S_bound h0_w129) (fun k_ hk => ⟨hk.2.1, hk.2.2.1, hk.2.2.2⟩)) (below_size HB.out))
  obtain ⟨A133, c134, rfl⟩ := Kd.R_slice h6_w129
  have O135 := Aside0.mk (show Kd.R (Kd.int .i64) 3 w129 w.heap.size (Seg w127.heap.size w129.heap.size w129 [3]) (.slice A133 r20.length c134) r20 from Kd.R_lower (Kd.R_mono (Kd.R_bound h6_w129) (fun k_ hk => ⟨hk.2.1, hk.2.2.1, hk.2.2.2⟩)) (below_size HB.out))
  have Z136 := Aside0.mk (below_size hb)
  replace HB := Aside0.mk (below_step HB.out hb)
  clear hb h0_w129 h6_w129
  refine hK.out _ _ ⟨(blk_cell BK72.out 0).trans rfl, (blk_cell BK72.out 1).trans rfl, (blk_cell BK72.out 2).trans rfl, (blk_cell BK72.out 3).trans rfl, (blk_cell BK72.out 4).trans rfl, (blk_cell BK72.out 5).trans rfl, (blk_cell BK72.out 6).trans rfl, (blk_cell BK1.out 0).trans rfl, (blk_cell BK1.out 1).trans rfl, (blk_cell BK1.out 2).trans rfl, (blk_cell BK1.out 3).trans rfl, (blk_cell BK1.out 4).trans rfl, (blk_cell BK1.out 5).trans rfl, (blk_cell BK1.out 6).trans rfl⟩ (fun hHeld => ?_)
  clear hK K
  refine norm_ (a' := ?_) ?_ ?_
  rotate_left
  · show Act.put _ (some 60) _ = _
    simp only [Act.put, List.setIfInBounds_toArray, List.set_cons_zero, List.set_cons_succ, i64_w, i32_w]
    rfl
  refine one_ (i := 3) (N := some 61) #[true, true, true, true, false] rfl rfl (by kernel_rfl) (by decide) (fun K hK => ?_)
  refine goes_ Try.func40 (by kernel_rfl) rfl #[.agg #[.slice A65 r14.length c66, .int .i64 r15, .int .i64 r16, .int .i64 r17, .int .i64 r18, .int .i64 r19, .slice A68 r20.length c69], .agg #[.slice A130 r14.length c131, .int .i64 r15, .int .i64 r16, .int .i64 r17, .int .i64 r18, .int .i64 r19, .slice A133 r20.length c134]] (by rfl) rfl rfl (by (try simp only [List.map_toArray, List.map_cons, List.map_nil]); first | done | rfl) ?_
  with_reducible refine (laws_eqArena.calls k A65 c66 r14 r15 r16 r17 r18 r19 A68 c69 r20 A130 c131 r14 r15 r16 r17 r18 r19 A133 c134 r20 true w129 (Kd.S_reads' O67.out).2.2 (Kd.S_reads' O67.out).2.1 (Kd.R_reads' O70.out).2.2 (Kd.R_reads' O70.out).2.1 (Kd.S_reads' O132.out).2.2 (Kd.S_reads' O132.out).2.1 (Kd.R_reads' O135.out).2.2 (Kd.R_reads' O135.out).2.1 e138.out).mono ?_
  rintro e w137 ⟨rfl, hb⟩
  refine ⟨_, rfl, ?_⟩
  replace BK1 := Aside0.mk (blk_below BK1.out hb)
  replace BK2 := Aside0.mk (blk_below BK2.out hb)
  replace O40 := Aside0.mk (Kd.S_below O40.out hb)
  replace O41 := Aside0.mk (Kd.R_below O41.out hb)
  replace BK43 := Aside0.mk (blk_below BK43.out hb)
  replace BK46 := Aside0.mk (blk_below BK46.out hb)
  replace O67 := Aside0.mk (Kd.S_below O67.out hb)
  replace O70 := Aside0.mk (Kd.R_below O70.out hb)
  replace BK72 := Aside0.mk (blk_below BK72.out hb)
  replace O79 := Aside0.mk (Kd.S_below O79.out hb)
  replace O80 := Aside0.mk (Kd.R_below O80.out hb)
  replace BK82 := Aside0.mk (blk_below BK82.out hb)
  replace BK85 := Aside0.mk (blk_below BK85.out hb)
  replace O132 := Aside0.mk (Kd.S_below O132.out hb)
  replace O135 := Aside0.mk (Kd.R_below O135.out hb)
  have Z139 := Aside0.mk (below_size hb)
  replace HB := Aside0.mk (below_step HB.out hb)
  clear hb 
  refine hK.out _ _ ⟨(blk_cell BK72.out 0).trans rfl, (blk_cell BK72.out 1).trans rfl, (blk_cell BK72.out 2).trans rfl, (blk_cell BK72.out 3).trans rfl, (blk_cell BK72.out 4).trans rfl, (blk_cell BK72.out 5).trans rfl, (blk_cell BK72.out 6).trans rfl, (blk_cell BK1.out 0).trans rfl, (blk_cell BK1.out 1).trans rfl, (blk_cell BK1.out 2).trans rfl, (blk_cell BK1.out 3).trans rfl, (blk_cell BK1.out 4).trans rfl, (blk_cell BK1.out 5).trans rfl, (blk_cell BK1.out 6).trans rfl⟩ (fun hHeld => ?_)
  clear hK K
  refine norm_ (a' := ?_) ?_ ?_
  rotate_left
  · show Act.put _ (some 61) _ = _
    simp only [Act.put, List.setIfInBounds_toArray, List.set_cons_zero, List.set_cons_succ, i64_w, i32_w]
    rfl
  refine pure_ (i := 4) (N := some 62) (v := ?_) (a' := ?_) #[true, true, true, true, true] rfl rfl (by kernel_rfl) (fun _ _ _ h => h) (Or.inl ⟨by rfl, ?_⟩) ?_ ?_
  rotate_left
  · intro w'
    go_simp
    with_reducible rfl
  rotate_left
  · simp only [Act.put, List.setIfInBounds_toArray, List.set_cons_zero, List.set_cons_succ, i64_w, i32_w]
    rfl
  refine done_ (by kernel_rfl) ?_
  clear hHeld
  clear O132 O135
  have hz140 : w137.cell? ⟨w64.heap.size, 0, none⟩ = some (.slice A65 r14.length c66) := (blk_cell BK72.out 0).trans rfl
  have hz141 : w137.cell? ⟨w64.heap.size, 1, none⟩ = some (.int .i64 r15) := (blk_cell BK72.out 1).trans rfl
  have hz142 : w137.cell? ⟨w64.heap.size, 2, none⟩ = some (.int .i64 r16) := (blk_cell BK72.out 2).trans rfl
  have hz143 : w137.cell? ⟨w64.heap.size, 3, none⟩ = some (.int .i64 r17) := (blk_cell BK72.out 3).trans rfl
  have hz144 : w137.cell? ⟨w64.heap.size, 4, none⟩ = some (.int .i64 r18) := (blk_cell BK72.out 4).trans rfl
  have hz145 : w137.cell? ⟨w64.heap.size, 5, none⟩ = some (.int .i64 r19) := (blk_cell BK72.out 5).trans rfl
  have hz146 : w137.cell? ⟨w64.heap.size, 6, none⟩ = some (.slice A68 r20.length c69) := (blk_cell BK72.out 6).trans rfl
  have hl147 : w64.heap.size < w137.heap.size := blk_lt BK72.out
  go_wp2_with fail
  clear hz140 hz141 hz142 hz143 hz144 hz145 hz146 hl147
  refine (laws_markArena.calls k (Seg w48.heap.size w64.heap.size w64 [29, 5]) _ r14 r15 r16 r17 r18 r19 (Seg w48.heap.size w64.heap.size w64 [3]) _ r20 1 m149 x150 x151 w w137 HB.out O67.out O70.out (fun k_ h1 h2 => Ty_ne h1.2.2 h2.2.2 (by decide)) e152.out).mono ?_
  rintro e w148 ⟨rfl, h153, h154, hb, hk⟩
  replace BK1 := Aside0.mk (blk_kept BK1.out hk (fun hs => hs.elim (fun hq => (by have := hq.1; have := hq.2.1; have := Z4.out; have := Z6.out; have := Z10.out; have := Z12.out; have := Z44.out; have := Z47.out; have := Z49.out; have := Z50.out; have := Z53.out; have := Z71.out; have := Z74.out; have := Z76.out; have := Z83.out; have := Z86.out; have := Z88.out; have := Z89.out; have := Z92.out; have := Z113.out; have := Z126.out; have := Z128.out; have := Z136.out; have := Z139.out; omega)) (fun hs' => (by have := hs'.1; have := hs'.2.1; have := Z4.out; have := Z6.out; have := Z10.out; have := Z12.out; have := Z44.out; have := Z47.out; have := Z49.out; have := Z50.out; have := Z53.out; have := Z71.out; have := Z74.out; have := Z76.out; have := Z83.out; have := Z86.out; have := Z88.out; have := Z89.out; have := Z92.out; have := Z113.out; have := Z126.out; have := Z128.out; have := Z136.out; have := Z139.out; omega))))
  replace BK2 := Aside0.mk (blk_kept BK2.out hk (fun hs => hs.elim (fun hq => (by have := hq.1; have := hq.2.1; have := Z4.out; have := Z6.out; have := Z10.out; have := Z12.out; have := Z44.out; have := Z47.out; have := Z49.out; have := Z50.out; have := Z53.out; have := Z71.out; have := Z74.out; have := Z76.out; have := Z83.out; have := Z86.out; have := Z88.out; have := Z89.out; have := Z92.out; have := Z113.out; have := Z126.out; have := Z128.out; have := Z136.out; have := Z139.out; omega)) (fun hs' => (by have := hs'.1; have := hs'.2.1; have := Z4.out; have := Z6.out; have := Z10.out; have := Z12.out; have := Z44.out; have := Z47.out; have := Z49.out; have := Z50.out; have := Z53.out; have := Z71.out; have := Z74.out; have := Z76.out; have := Z83.out; have := Z86.out; have := Z88.out; have := Z89.out; have := Z92.out; have := Z113.out; have := Z126.out; have := Z128.out; have := Z136.out; have := Z139.out; omega))))
  replace O40 := Aside0.mk (Kd.S_step O40.out (fun k_ hk_ hlt => hk.2 k_ hlt (fun hs => hs.elim (fun hq => (by have := hq.1; have := hq.2.1; have := hk_.1; have := hk_.2.1; have := Z4.out; have := Z6.out; have := Z10.out; have := Z12.out; have := Z44.out; have := Z47.out; have := Z49.out; have := Z50.out; have := Z53.out; have := Z71.out; have := Z74.out; have := Z76.out; have := Z83.out; have := Z86.out; have := Z88.out; have := Z89.out; have := Z92.out; have := Z113.out; have := Z126.out; have := Z128.out; have := Z136.out; have := Z139.out;  omega)) (fun hs' => (by have := hs'.1; have := hs'.2.1; have := hk_.1; have := hk_.2.1; have := Z4.out; have := Z6.out; have := Z10.out; have := Z12.out; have := Z44.out; have := Z47.out; have := Z49.out; have := Z50.out; have := Z53.out; have := Z71.out; have := Z74.out; have := Z76.out; have := Z83.out; have := Z86.out; have := Z88.out; have := Z89.out; have := Z92.out; have := Z113.out; have := Z126.out; have := Z128.out; have := Z136.out; have := Z139.out;  omega)))))
  replace O41 := Aside0.mk (Kd.R_step O41.out (fun k_ hk_ hlt => hk.2 k_ hlt (fun hs => hs.elim (fun hq => (by have := hq.1; have := hq.2.1; have := hk_.1; have := hk_.2.1; have := Z4.out; have := Z6.out; have := Z10.out; have := Z12.out; have := Z44.out; have := Z47.out; have := Z49.out; have := Z50.out; have := Z53.out; have := Z71.out; have := Z74.out; have := Z76.out; have := Z83.out; have := Z86.out; have := Z88.out; have := Z89.out; have := Z92.out; have := Z113.out; have := Z126.out; have := Z128.out; have := Z136.out; have := Z139.out;  omega)) (fun hs' => (by have := hs'.1; have := hs'.2.1; have := hk_.1; have := hk_.2.1; have := Z4.out; have := Z6.out; have := Z10.out; have := Z12.out; have := Z44.out; have := Z47.out; have := Z49.out; have := Z50.out; have := Z53.out; have := Z71.out; have := Z74.out; have := Z76.out; have := Z83.out; have := Z86.out; have := Z88.out; have := Z89.out; have := Z92.out; have := Z113.out; have := Z126.out; have := Z128.out; have := Z136.out; have := Z139.out;  omega)))))
  replace BK43 := Aside0.mk (blk_kept BK43.out hk (fun hs => hs.elim (fun hq => (by have := hq.1; have := hq.2.1; have := Z4.out; have := Z6.out; have := Z10.out; have := Z12.out; have := Z44.out; have := Z47.out; have := Z49.out; have := Z50.out; have := Z53.out; have := Z71.out; have := Z74.out; have := Z76.out; have := Z83.out; have := Z86.out; have := Z88.out; have := Z89.out; have := Z92.out; have := Z113.out; have := Z126.out; have := Z128.out; have := Z136.out; have := Z139.out; omega)) (fun hs' => (by have := hs'.1; have := hs'.2.1; have := Z4.out; have := Z6.out; have := Z10.out; have := Z12.out; have := Z44.out; have := Z47.out; have := Z49.out; have := Z50.out; have := Z53.out; have := Z71.out; have := Z74.out; have := Z76.out; have := Z83.out; have := Z86.out; have := Z88.out; have := Z89.out; have := Z92.out; have := Z113.out; have := Z126.out; have := Z128.out; have := Z136.out; have := Z139.out; omega))))
  replace BK46 := Aside0.mk (blk_kept BK46.out hk (fun hs => hs.elim (fun hq => (by have := hq.1; have := hq.2.1; have := Z4.out; have := Z6.out; have := Z10.out; have := Z12.out; have := Z44.out; have := Z47.out; have := Z49.out; have := Z50.out; have := Z53.out; have := Z71.out; have := Z74.out; have := Z76.out; have := Z83.out; have := Z86.out; have := Z88.out; have := Z89.out; have := Z92.out; have := Z113.out; have := Z126.out; have := Z128.out; have := Z136.out; have := Z139.out; omega)) (fun hs' => (by have := hs'.1; have := hs'.2.1; have := Z4.out; have := Z6.out; have := Z10.out; have := Z12.out; have := Z44.out; have := Z47.out; have := Z49.out; have := Z50.out; have := Z53.out; have := Z71.out; have := Z74.out; have := Z76.out; have := Z83.out; have := Z86.out; have := Z88.out; have := Z89.out; have := Z92.out; have := Z113.out; have := Z126.out; have := Z128.out; have := Z136.out; have := Z139.out; omega))))
  replace BK72 := Aside0.mk (blk_kept BK72.out hk (fun hs => hs.elim (fun hq => (by have := hq.1; have := hq.2.1; have := Z4.out; have := Z6.out; have := Z10.out; have := Z12.out; have := Z44.out; have := Z47.out; have := Z49.out; have := Z50.out; have := Z53.out; have := Z71.out; have := Z74.out; have := Z76.out; have := Z83.out; have := Z86.out; have := Z88.out; have := Z89.out; have := Z92.out; have := Z113.out; have := Z126.out; have := Z128.out; have := Z136.out; have := Z139.out; omega)) (fun hs' => (by have := hs'.1; have := hs'.2.1; have := Z4.out; have := Z6.out; have := Z10.out; have := Z12.out; have := Z44.out; have := Z47.out; have := Z49.out; have := Z50.out; have := Z53.out; have := Z71.out; have := Z74.out; have := Z76.out; have := Z83.out; have := Z86.out; have := Z88.out; have := Z89.out; have := Z92.out; have := Z113.out; have := Z126.out; have := Z128.out; have := Z136.out; have := Z139.out; omega))))
  replace O79 := Aside0.mk (Kd.S_step O79.out (fun k_ hk_ hlt => hk.2 k_ hlt (fun hs => hs.elim (fun hq => (by have := hq.1; have := hq.2.1; have := hk_.1; have := hk_.2.1; have := Z4.out; have := Z6.out; have := Z10.out; have := Z12.out; have := Z44.out; have := Z47.out; have := Z49.out; have := Z50.out; have := Z53.out; have := Z71.out; have := Z74.out; have := Z76.out; have := Z83.out; have := Z86.out; have := Z88.out; have := Z89.out; have := Z92.out; have := Z113.out; have := Z126.out; have := Z128.out; have := Z136.out; have := Z139.out;  omega)) (fun hs' => (by have := hs'.1; have := hs'.2.1; have := hk_.1; have := hk_.2.1; have := Z4.out; have := Z6.out; have := Z10.out; have := Z12.out; have := Z44.out; have := Z47.out; have := Z49.out; have := Z50.out; have := Z53.out; have := Z71.out; have := Z74.out; have := Z76.out; have := Z83.out; have := Z86.out; have := Z88.out; have := Z89.out; have := Z92.out; have := Z113.out; have := Z126.out; have := Z128.out; have := Z136.out; have := Z139.out;  omega)))))
  replace O80 := Aside0.mk (Kd.R_step O80.out (fun k_ hk_ hlt => hk.2 k_ hlt (fun hs => hs.elim (fun hq => (by have := hq.1; have := hq.2.1; have := hk_.1; have := hk_.2.1; have := Z4.out; have := Z6.out; have := Z10.out; have := Z12.out; have := Z44.out; have := Z47.out; have := Z49.out; have := Z50.out; have := Z53.out; have := Z71.out; have := Z74.out; have := Z76.out; have := Z83.out; have := Z86.out; have := Z88.out; have := Z89.out; have := Z92.out; have := Z113.out; have := Z126.out; have := Z128.out; have := Z136.out; have := Z139.out;  omega)) (fun hs' => (by have := hs'.1; have := hs'.2.1; have := hk_.1; have := hk_.2.1; have := Z4.out; have := Z6.out; have := Z10.out; have := Z12.out; have := Z44.out; have := Z47.out; have := Z49.out; have := Z50.out; have := Z53.out; have := Z71.out; have := Z74.out; have := Z76.out; have := Z83.out; have := Z86.out; have := Z88.out; have := Z89.out; have := Z92.out; have := Z113.out; have := Z126.out; have := Z128.out; have := Z136.out; have := Z139.out;  omega)))))
  replace BK82 := Aside0.mk (blk_kept BK82.out hk (fun hs => hs.elim (fun hq => (by have := hq.1; have := hq.2.1; have := Z4.out; have := Z6.out; have := Z10.out; have := Z12.out; have := Z44.out; have := Z47.out; have := Z49.out; have := Z50.out; have := Z53.out; have := Z71.out; have := Z74.out; have := Z76.out; have := Z83.out; have := Z86.out; have := Z88.out; have := Z89.out; have := Z92.out; have := Z113.out; have := Z126.out; have := Z128.out; have := Z136.out; have := Z139.out; omega)) (fun hs' => (by have := hs'.1; have := hs'.2.1; have := Z4.out; have := Z6.out; have := Z10.out; have := Z12.out; have := Z44.out; have := Z47.out; have := Z49.out; have := Z50.out; have := Z53.out; have := Z71.out; have := Z74.out; have := Z76.out; have := Z83.out; have := Z86.out; have := Z88.out; have := Z89.out; have := Z92.out; have := Z113.out; have := Z126.out; have := Z128.out; have := Z136.out; have := Z139.out; omega))))
  replace BK85 := Aside0.mk (blk_kept BK85.out hk (fun hs => hs.elim (fun hq => (by have := hq.1; have := hq.2.1; have := Z4.out; have := Z6.out; have := Z10.out; have := Z12.out; have := Z44.out; have := Z47.out; have := Z49.out; have := Z50.out; have := Z53.out; have := Z71.out; have := Z74.out; have := Z76.out; have := Z83.out; have := Z86.out; have := Z88.out; have := Z89.out; have := Z92.out; have := Z113.out; have := Z126.out; have := Z128.out; have := Z136.out; have := Z139.out; omega)) (fun hs' => (by have := hs'.1; have := hs'.2.1; have := Z4.out; have := Z6.out; have := Z10.out; have := Z12.out; have := Z44.out; have := Z47.out; have := Z49.out; have := Z50.out; have := Z53.out; have := Z71.out; have := Z74.out; have := Z76.out; have := Z83.out; have := Z86.out; have := Z88.out; have := Z89.out; have := Z92.out; have := Z113.out; have := Z126.out; have := Z128.out; have := Z136.out; have := Z139.out; omega))))
  replace O67 := Aside0.mk h153
  replace O70 := Aside0.mk h154
  replace HB := Aside0.mk hb
  have Z155 := Aside0.mk hk.1
  clear hb hk h153 h154
  have hn156 := (Kd.S_reads' O67.out).1
  have hn156_ := Aside0.mk hn156
  clear hn156
  have hn157 := (Kd.R_reads' O70.out).1
  have hn157_ := Aside0.mk hn157
  clear hn157
  clear O67 O70 BK72
  have hz158 : w148.cell? ⟨g7r8_, 0, none⟩ = some (.slice A7r3_0_ r27.length c7r3_0_) := (blk_cell BK82.out 0).trans rfl
  have hz159 : w148.cell? ⟨g7r8_, 1, none⟩ = some (.int .i64 r28) := (blk_cell BK82.out 1).trans rfl
  have hz160 : w148.cell? ⟨g7r8_, 2, none⟩ = some (.int .i64 r29) := (blk_cell BK82.out 2).trans rfl
  have hz161 : w148.cell? ⟨g7r8_, 3, none⟩ = some (.int .i64 r30) := (blk_cell BK82.out 3).trans rfl
  have hz162 : w148.cell? ⟨g7r8_, 4, none⟩ = some (.int .i64 r31) := (blk_cell BK82.out 4).trans rfl
  have hz163 : w148.cell? ⟨g7r8_, 5, none⟩ = some (.int .i64 r32) := (blk_cell BK82.out 5).trans rfl
  have hz164 : w148.cell? ⟨g7r8_, 6, none⟩ = some (.slice A7r3_6_ r33.length c7r3_6_) := (blk_cell BK82.out 6).trans rfl
  have hl165 : g7r8_ < w148.heap.size := blk_lt BK82.out
  have hz166 : w148.cell? ⟨g5r9_, 0, none⟩ = some (.slice A5r4_0_ r27.length c5r4_0_) := (blk_cell BK43.out 0).trans rfl
  have hz167 : w148.cell? ⟨g5r9_, 1, none⟩ = some (.int .i64 r28) := (blk_cell BK43.out 1).trans rfl
  have hz168 : w148.cell? ⟨g5r9_, 2, none⟩ = some (.int .i64 r29) := (blk_cell BK43.out 2).trans rfl
  have hz169 : w148.cell? ⟨g5r9_, 3, none⟩ = some (.int .i64 r30) := (blk_cell BK43.out 3).trans rfl
  have hz170 : w148.cell? ⟨g5r9_, 4, none⟩ = some (.int .i64 r31) := (blk_cell BK43.out 4).trans rfl
  have hz171 : w148.cell? ⟨g5r9_, 5, none⟩ = some (.int .i64 r32) := (blk_cell BK43.out 5).trans rfl
  have hz172 : w148.cell? ⟨g5r9_, 6, none⟩ = some (.slice A5r4_6_ r33.length c5r4_6_) := (blk_cell BK43.out 6).trans rfl
  have hl173 : g5r9_ < w148.heap.size := blk_lt BK43.out
  go_wp2_with fail
  clear hz158 hz159 hz160 hz161 hz162 hz163 hz164 hl165 hz166 hz167 hz168 hz169 hz170 hz171 hz172 hl173
  have e175 := e112
  refine (laws_eqArena.calls k A7r3_0_ c7r3_0_ r27 r28 r29 r30 r31 r32 A7r3_6_ c7r3_6_ r33 A5r4_0_ c5r4_0_ r27 r28 r29 r30 r31 r32 A5r4_6_ c5r4_6_ r33 true w148 (Kd.S_reads' O79.out).2.2 (Kd.S_reads' O79.out).2.1 (Kd.R_reads' O80.out).2.2 (Kd.R_reads' O80.out).2.1 (Kd.S_reads' O40.out).2.2 (Kd.S_reads' O40.out).2.1 (Kd.R_reads' O41.out).2.2 (Kd.R_reads' O41.out).2.1 e175.out).mono ?_
  rintro e w174 ⟨rfl, hb⟩
  replace BK1 := Aside0.mk (blk_below BK1.out hb)
  replace BK2 := Aside0.mk (blk_below BK2.out hb)
  replace O40 := Aside0.mk (Kd.S_below O40.out hb)
  replace O41 := Aside0.mk (Kd.R_below O41.out hb)
  replace BK43 := Aside0.mk (blk_below BK43.out hb)
  replace BK46 := Aside0.mk (blk_below BK46.out hb)
  replace O79 := Aside0.mk (Kd.S_below O79.out hb)
  replace O80 := Aside0.mk (Kd.R_below O80.out hb)
  replace BK82 := Aside0.mk (blk_below BK82.out hb)
  replace BK85 := Aside0.mk (blk_below BK85.out hb)
  have Z176 := Aside0.mk (below_size hb)
  replace HB := Aside0.mk (below_step HB.out hb)
  clear hb 
  have hz177 : w174.cell? ⟨g7r9_, 0, none⟩ = some (.int .i64 r34) := (blk_cell BK85.out 0).trans rfl
  have hz178 : w174.cell? ⟨g7r9_, 1, none⟩ = some (.int .i64 r35) := (blk_cell BK85.out 1).trans rfl
  have hz179 : w174.cell? ⟨g7r9_, 2, none⟩ = some (.int .i64 r36) := (blk_cell BK85.out 2).trans rfl
  have hz180 : w174.cell? ⟨g7r9_, 3, none⟩ = some (.int .i64 r37) := (blk_cell BK85.out 3).trans rfl
  have hl181 : g7r9_ < w174.heap.size := blk_lt BK85.out
  have hz182 : w174.cell? ⟨g5r10_, 0, none⟩ = some (.int .i64 r34) := (blk_cell BK46.out 0).trans rfl
  have hz183 : w174.cell? ⟨g5r10_, 1, none⟩ = some (.int .i64 r35) := (blk_cell BK46.out 1).trans rfl
  have hz184 : w174.cell? ⟨g5r10_, 2, none⟩ = some (.int .i64 r36) := (blk_cell BK46.out 2).trans rfl
  have hz185 : w174.cell? ⟨g5r10_, 3, none⟩ = some (.int .i64 r37) := (blk_cell BK46.out 3).trans rfl
  have hl186 : g5r10_ < w174.heap.size := blk_lt BK46.out
  go_wp2_with fail
  clear hz177 hz178 hz179 hz180 hl181 hz182 hz183 hz184 hz185 hl186
  have e188 := e125
  refine (laws_eqWindow.calls r34 r35 r36 r37 r34 r35 r36 r37 true w174  e188.out).mono ?_
  rintro e w187 ⟨rfl, hb⟩
  replace BK1 := Aside0.mk (blk_below BK1.out hb)
  replace BK2 := Aside0.mk (blk_below BK2.out hb)
  replace O40 := Aside0.mk (Kd.S_below O40.out hb)
  replace O41 := Aside0.mk (Kd.R_below O41.out hb)
  replace BK43 := Aside0.mk (blk_below BK43.out hb)
  replace BK46 := Aside0.mk (blk_below BK46.out hb)
  replace O79 := Aside0.mk (Kd.S_below O79.out hb)
  replace O80 := Aside0.mk (Kd.R_below O80.out hb)
  replace BK82 := Aside0.mk (blk_below BK82.out hb)
  replace BK85 := Aside0.mk (blk_below BK85.out hb)
  have Z189 := Aside0.mk (below_size hb)
  replace HB := Aside0.mk (below_step HB.out hb)
  clear hb 
  clear BK85
  have hz190 : w187.cell? ⟨g7r8_, 0, none⟩ = some (.slice A7r3_0_ r27.length c7r3_0_) := (blk_cell BK82.out 0).trans rfl
  have hz191 : w187.cell? ⟨g7r8_, 1, none⟩ = some (.int .i64 r28) := (blk_cell BK82.out 1).trans rfl
  have hz192 : w187.cell? ⟨g7r8_, 2, none⟩ = some (.int .i64 r29) := (blk_cell BK82.out 2).trans rfl
  have hz193 : w187.cell? ⟨g7r8_, 3, none⟩ = some (.int .i64 r30) := (blk_cell BK82.out 3).trans rfl
  have hz194 : w187.cell? ⟨g7r8_, 4, none⟩ = some (.int .i64 r31) := (blk_cell BK82.out 4).trans rfl
  have hz195 : w187.cell? ⟨g7r8_, 5, none⟩ = some (.int .i64 r32) := (blk_cell BK82.out 5).trans rfl
  have hz196 : w187.cell? ⟨g7r8_, 6, none⟩ = some (.slice A7r3_6_ r33.length c7r3_6_) := (blk_cell BK82.out 6).trans rfl
  have hl197 : g7r8_ < w187.heap.size := blk_lt BK82.out
  go_wp2_with fail
  clear hz190 hz191 hz192 hz193 hz194 hz195 hz196 hl197
  refine (laws_markArena.calls k (Seg w75.heap.size w87.heap.size w87 [29, 5]) _ r27 r28 r29 r30 r31 r32 (Seg w75.heap.size w87.heap.size w87 [3]) _ r33 1 m199 x200 x201 w w187 HB.out O79.out O80.out (fun k_ h1 h2 => Ty_ne h1.2.2 h2.2.2 (by decide)) e202.out).mono ?_
  rintro e w198 ⟨rfl, h203, h204, hb, hk⟩
  replace BK1 := Aside0.mk (blk_kept BK1.out hk (fun hs => hs.elim (fun hq => (by have := hq.1; have := hq.2.1; have := Z4.out; have := Z6.out; have := Z10.out; have := Z12.out; have := Z44.out; have := Z47.out; have := Z49.out; have := Z50.out; have := Z53.out; have := Z71.out; have := Z74.out; have := Z76.out; have := Z83.out; have := Z86.out; have := Z88.out; have := Z89.out; have := Z92.out; have := Z113.out; have := Z126.out; have := Z128.out; have := Z136.out; have := Z139.out; have := Z155.out; have := Z176.out; have := Z189.out; omega)) (fun hs' => (by have := hs'.1; have := hs'.2.1; have := Z4.out; have := Z6.out; have := Z10.out; have := Z12.out; have := Z44.out; have := Z47.out; have := Z49.out; have := Z50.out; have := Z53.out; have := Z71.out; have := Z74.out; have := Z76.out; have := Z83.out; have := Z86.out; have := Z88.out; have := Z89.out; have := Z92.out; have := Z113.out; have := Z126.out; have := Z128.out; have := Z136.out; have := Z139.out; have := Z155.out; have := Z176.out; have := Z189.out; omega))))
  replace BK2 := Aside0.mk (blk_kept BK2.out hk (fun hs => hs.elim (fun hq => (by have := hq.1; have := hq.2.1; have := Z4.out; have := Z6.out; have := Z10.out; have := Z12.out; have := Z44.out; have := Z47.out; have := Z49.out; have := Z50.out; have := Z53.out; have := Z71.out; have := Z74.out; have := Z76.out; have := Z83.out; have := Z86.out; have := Z88.out; have := Z89.out; have := Z92.out; have := Z113.out; have := Z126.out; have := Z128.out; have := Z136.out; have := Z139.out; have := Z155.out; have := Z176.out; have := Z189.out; omega)) (fun hs' => (by have := hs'.1; have := hs'.2.1; have := Z4.out; have := Z6.out; have := Z10.out; have := Z12.out; have := Z44.out; have := Z47.out; have := Z49.out; have := Z50.out; have := Z53.out; have := Z71.out; have := Z74.out; have := Z76.out; have := Z83.out; have := Z86.out; have := Z88.out; have := Z89.out; have := Z92.out; have := Z113.out; have := Z126.out; have := Z128.out; have := Z136.out; have := Z139.out; have := Z155.out; have := Z176.out; have := Z189.out; omega))))
  replace O40 := Aside0.mk (Kd.S_step O40.out (fun k_ hk_ hlt => hk.2 k_ hlt (fun hs => hs.elim (fun hq => (by have := hq.1; have := hq.2.1; have := hk_.1; have := hk_.2.1; have := Z4.out; have := Z6.out; have := Z10.out; have := Z12.out; have := Z44.out; have := Z47.out; have := Z49.out; have := Z50.out; have := Z53.out; have := Z71.out; have := Z74.out; have := Z76.out; have := Z83.out; have := Z86.out; have := Z88.out; have := Z89.out; have := Z92.out; have := Z113.out; have := Z126.out; have := Z128.out; have := Z136.out; have := Z139.out; have := Z155.out; have := Z176.out; have := Z189.out;  omega)) (fun hs' => (by have := hs'.1; have := hs'.2.1; have := hk_.1; have := hk_.2.1; have := Z4.out; have := Z6.out; have := Z10.out; have := Z12.out; have := Z44.out; have := Z47.out; have := Z49.out; have := Z50.out; have := Z53.out; have := Z71.out; have := Z74.out; have := Z76.out; have := Z83.out; have := Z86.out; have := Z88.out; have := Z89.out; have := Z92.out; have := Z113.out; have := Z126.out; have := Z128.out; have := Z136.out; have := Z139.out; have := Z155.out; have := Z176.out; have := Z189.out;  omega)))))
  replace O41 := Aside0.mk (Kd.R_step O41.out (fun k_ hk_ hlt => hk.2 k_ hlt (fun hs => hs.elim (fun hq => (by have := hq.1; have := hq.2.1; have := hk_.1; have := hk_.2.1; have := Z4.out; have := Z6.out; have := Z10.out; have := Z12.out; have := Z44.out; have := Z47.out; have := Z49.out; have := Z50.out; have := Z53.out; have := Z71.out; have := Z74.out; have := Z76.out; have := Z83.out; have := Z86.out; have := Z88.out; have := Z89.out; have := Z92.out; have := Z113.out; have := Z126.out; have := Z128.out; have := Z136.out; have := Z139.out; have := Z155.out; have := Z176.out; have := Z189.out;  omega)) (fun hs' => (by have := hs'.1; have := hs'.2.1; have := hk_.1; have := hk_.2.1; have := Z4.out; have := Z6.out; have := Z10.out; have := Z12.out; have := Z44.out; have := Z47.out; have := Z49.out; have := Z50.out; have := Z53.out; have := Z71.out; have := Z74.out; have := Z76.out; have := Z83.out; have := Z86.out; have := Z88.out; have := Z89.out; have := Z92.out; have := Z113.out; have := Z126.out; have := Z128.out; have := Z136.out; have := Z139.out; have := Z155.out; have := Z176.out; have := Z189.out;  omega)))))
  replace BK43 := Aside0.mk (blk_kept BK43.out hk (fun hs => hs.elim (fun hq => (by have := hq.1; have := hq.2.1; have := Z4.out; have := Z6.out; have := Z10.out; have := Z12.out; have := Z44.out; have := Z47.out; have := Z49.out; have := Z50.out; have := Z53.out; have := Z71.out; have := Z74.out; have := Z76.out; have := Z83.out; have := Z86.out; have := Z88.out; have := Z89.out; have := Z92.out; have := Z113.out; have := Z126.out; have := Z128.out; have := Z136.out; have := Z139.out; have := Z155.out; have := Z176.out; have := Z189.out; omega)) (fun hs' => (by have := hs'.1; have := hs'.2.1; have := Z4.out; have := Z6.out; have := Z10.out; have := Z12.out; have := Z44.out; have := Z47.out; have := Z49.out; have := Z50.out; have := Z53.out; have := Z71.out; have := Z74.out; have := Z76.out; have := Z83.out; have := Z86.out; have := Z88.out; have := Z89.out; have := Z92.out; have := Z113.out; have := Z126.out; have := Z128.out; have := Z136.out; have := Z139.out; have := Z155.out; have := Z176.out; have := Z189.out; omega))))
  replace BK46 := Aside0.mk (blk_kept BK46.out hk (fun hs => hs.elim (fun hq => (by have := hq.1; have := hq.2.1; have := Z4.out; have := Z6.out; have := Z10.out; have := Z12.out; have := Z44.out; have := Z47.out; have := Z49.out; have := Z50.out; have := Z53.out; have := Z71.out; have := Z74.out; have := Z76.out; have := Z83.out; have := Z86.out; have := Z88.out; have := Z89.out; have := Z92.out; have := Z113.out; have := Z126.out; have := Z128.out; have := Z136.out; have := Z139.out; have := Z155.out; have := Z176.out; have := Z189.out; omega)) (fun hs' => (by have := hs'.1; have := hs'.2.1; have := Z4.out; have := Z6.out; have := Z10.out; have := Z12.out; have := Z44.out; have := Z47.out; have := Z49.out; have := Z50.out; have := Z53.out; have := Z71.out; have := Z74.out; have := Z76.out; have := Z83.out; have := Z86.out; have := Z88.out; have := Z89.out; have := Z92.out; have := Z113.out; have := Z126.out; have := Z128.out; have := Z136.out; have := Z139.out; have := Z155.out; have := Z176.out; have := Z189.out; omega))))
  replace BK82 := Aside0.mk (blk_kept BK82.out hk (fun hs => hs.elim (fun hq => (NS90.out hq)) (fun hs' => (NS91.out hs'))))
  replace O79 := Aside0.mk h203
  replace O80 := Aside0.mk h204
  replace HB := Aside0.mk hb
  have Z205 := Aside0.mk hk.1
  clear hb hk h203 h204
  have hn206 := (Kd.S_reads' O79.out).1
  have hn206_ := Aside0.mk hn206
  clear hn206
  have hn207 := (Kd.R_reads' O80.out).1
  have hn207_ := Aside0.mk hn207
  clear hn207
  have hz208 : w198.cell? ⟨g7r8_, 0, none⟩ = some (.slice A7r3_0_ r27.length c7r3_0_) := (blk_cell BK82.out 0).trans rfl
  have hz209 : w198.cell? ⟨g7r8_, 1, none⟩ = some (.int .i64 r28) := (blk_cell BK82.out 1).trans rfl
  have hz210 : w198.cell? ⟨g7r8_, 2, none⟩ = some (.int .i64 r29) := (blk_cell BK82.out 2).trans rfl
  have hz211 : w198.cell? ⟨g7r8_, 3, none⟩ = some (.int .i64 r30) := (blk_cell BK82.out 3).trans rfl
  have hz212 : w198.cell? ⟨g7r8_, 4, none⟩ = some (.int .i64 r31) := (blk_cell BK82.out 4).trans rfl
  have hz213 : w198.cell? ⟨g7r8_, 5, none⟩ = some (.int .i64 r32) := (blk_cell BK82.out 5).trans rfl
  have hz214 : w198.cell? ⟨g7r8_, 6, none⟩ = some (.slice A7r3_6_ r33.length c7r3_6_) := (blk_cell BK82.out 6).trans rfl
  have hl215 : g7r8_ < w198.heap.size := blk_lt BK82.out
  go_wp2_with fail
  clear hz208 hz209 hz210 hz211 hz212 hz213 hz214 hl215
  rw [hn206_.out]
  rw [hn207_.out]
  refine (laws_heldArena.calls k A7r3_0_ c7r3_0_ x200 r28 r29 r30 r31 r32 A7r3_6_ c7r3_6_ x201 1 m199 w198 (Kd.S_reads' O79.out).2.2 (Nat.le_trans (Nat.le_of_eq hn206_.out.symm) (Kd.S_reads' O79.out).2.1) (Kd.R_reads' O80.out).2.2 (Nat.le_trans (Nat.le_of_eq hn207_.out.symm) (Kd.R_reads' O80.out).2.1) e217.out).mono ?_
  rintro e w216 ⟨rfl, hb⟩
  replace BK1 := Aside0.mk (blk_below BK1.out hb)
  replace BK2 := Aside0.mk (blk_below BK2.out hb)
  replace O40 := Aside0.mk (Kd.S_below O40.out hb)
  replace O41 := Aside0.mk (Kd.R_below O41.out hb)
  replace BK43 := Aside0.mk (blk_below BK43.out hb)
  replace BK46 := Aside0.mk (blk_below BK46.out hb)
  replace O79 := Aside0.mk (Kd.S_below O79.out hb)
  replace O80 := Aside0.mk (Kd.R_below O80.out hb)
  replace BK82 := Aside0.mk (blk_below BK82.out hb)
  have Z218 := Aside0.mk (below_size hb)
  replace HB := Aside0.mk (below_step HB.out hb)
  clear hb 
  try rw [← hn207_.out]
  try rw [← hn206_.out]
  go_wp2_with fail
  refine start_ (n := 14) (S := fun w' => True) (ds := []) #[false, false, false, false, false, false, false, false, false, false, false, false, false, false] (by kernel_rfl) rfl rfl trivial (fun hHeld => ?_)
  refine with_tabW FnExactGiveZero.tab24 FnExactGiveZero.bits24 (fun HT_ HW_ => ?_)
  replace BK1 := Aside0.mk (blk_drew BK1.out)
  replace BK2 := Aside0.mk (blk_drew BK2.out)
  replace O40 := Aside0.mk (Kd.S_drew O40.out)
  replace O41 := Aside0.mk (Kd.R_drew O41.out)
  replace BK43 := Aside0.mk (blk_drew BK43.out)
  replace BK46 := Aside0.mk (blk_drew BK46.out)
  replace O79 := Aside0.mk (Kd.S_drew O79.out)
  replace O80 := Aside0.mk (Kd.R_drew O80.out)
  replace BK82 := Aside0.mk (blk_drew BK82.out)
  replace HB := Aside0.mk (below_drew1 HB.out)
  have Z220 := Aside0.mk (show w216.heap.size ≤ w216.drew.heap.size from Nat.le_refl _)
  generalize w216.drew = w219 at BK1 BK2 O40 O41 BK43 BK46 O79 O80 BK82 HB Z220 hHeld ⊢
  clear hHeld
  have HD221 := Aside0.mk (Below.refl w219.heap.size w219)
  refine inv_at [0, 1, 2, 3, 4, 5, 6, 7, 8, 9, 10, 11, 12, 13] (fun a0_ b a w' => ∃ (A24r1_0_ : Option Addr) (c24r1_0_ : Nat) (A24r1_6_ : Option Addr) (c24r1_6_ : Nat) (A24r4_0_ : Option Addr) (c24r4_0_ : Nat) (A24r4_6_ : Option Addr) (c24r4_6_ : Nat) (g24r9_ : Nat) (g24r10_ : Nat) (m1_ : Value) (m4_ : Value) (m5_ : Value) (m6_ : Value) (m9_ : Value) (m10_ : Value), a = putSel a0_ b [(0, 97, .agg #[.slice A0_0 l0_0.length c0_0, .int .i64 a0_1, .int .i64 a0_2, .int .i64 a0_3, .int .i64 a0_4, .int .i64 a0_5, .slice A0_6 l0_6.length c0_6]), (1, 98, m1_), (2, 99, .agg #[.int .i64 a1_0, .int .i64 a1_1]), (3, 100, .agg #[.int .i64 r24, .int .i64 r25]), (4, 101, m4_), (5, 96, m5_), (6, 102, m6_), (7, 103, .agg #[.int .i64 r34, .int .i64 r35, .int .i64 r36, .int .i64 r37]), (8, 104, .bool r38), (9, 16, m9_), (10, 17, m10_), (13, 18, .bool r38)] ∧ (Below w219.heap.size w219 w') ∧ (b 1 = true → b 4 = false → Kd.S (Kd.slice 5 (Kd.int .u8)) 29 w' w219.heap.size (fun _ => True) (.slice A24r1_0_ r14.length c24r1_0_) r14) ∧ (b 1 = true → b 4 = false → Kd.R (Kd.int .i64) 3 w' w219.heap.size (fun _ => True) (.slice A24r1_6_ r20.length c24r1_6_) r20) ∧ (b 4 = true → Kd.S (Kd.slice 5 (Kd.int .u8)) 29 w' w219.heap.size (fun _ => True) (.slice A24r4_0_ r27.length c24r4_0_) r27) ∧ (b 4 = true → Kd.R (Kd.int .i64) 3 w' w219.heap.size (fun _ => True) (.slice A24r4_6_ r33.length c24r4_6_) r33) ∧ (b 9 = true → b 11 = false → w'.heap[g24r9_]? = some (.cells #[.slice none 0 0, .int .i64 0, .int .i64 0, .int .i64 0, .int .i64 0, .int .i64 0, .slice none 0 0] 70 (0, 0))) ∧ (b 9 = true → w219.heap.size ≤ g24r9_) ∧ (b 10 = true → b 12 = false → w'.heap[g24r10_]? = some (.cells #[.int .i64 0, .int .i64 0, .int .i64 0, .int .i64 0] 32 (0, 0))) ∧ (b 10 = true → w219.heap.size ≤ g24r10_) ∧ (b 9 = true → b 11 = true → w'.heap[g24r9_]? = some (.cells #[.slice A24r4_0_ r27.length c24r4_0_, .int .i64 r28, .int .i64 r29, .int .i64 r30, .int .i64 r31, .int .i64 r32, .slice A24r4_6_ r33.length c24r4_6_] 70 (0, 0))) ∧ (b 10 = true → b 12 = true → w'.heap[g24r10_]? = some (.cells #[.int .i64 r34, .int .i64 r35, .int .i64 r36, .int .i64 r37] 32 (0, 0))) ∧ (b 1 = true → (m1_ : Value) = .agg #[.slice A24r1_0_ r14.length c24r1_0_, .int .i64 r15, .int .i64 r16, .int .i64 r17, .int .i64 r18, .int .i64 r19, .slice A24r1_6_ r20.length c24r1_6_]) ∧ (b 4 = true → (m4_ : Value) = .tuple #[.agg #[.slice A24r4_0_ r27.length c24r4_0_, .int .i64 r28, .int .i64 r29, .int .i64 r30, .int .i64 r31, .int .i64 r32, .slice A24r4_6_ r33.length c24r4_6_], .agg #[.int .i64 r34, .int .i64 r35, .int .i64 r36, .int .i64 r37], .bool r38]) ∧ (b 5 = true → (m5_ : Value) = .tuple #[.agg #[.slice A24r4_0_ r27.length c24r4_0_, .int .i64 r28, .int .i64 r29, .int .i64 r30, .int .i64 r31, .int .i64 r32, .slice A24r4_6_ r33.length c24r4_6_], .agg #[.int .i64 r34, .int .i64 r35, .int .i64 r36, .int .i64 r37], .bool r38]) ∧ (b 6 = true → (m6_ : Value) = .agg #[.slice A24r4_0_ r27.length c24r4_0_, .int .i64 r28, .int .i64 r29, .int .i64 r30, .int .i64 r31, .int .i64 r32, .slice A24r4_6_ r33.length c24r4_6_]) ∧ (b 9 = true → (m9_ : Value) = .pointer (some ⟨g24r9_, 0, none⟩)) ∧ (b 10 = true → (m10_ : Value) = .pointer (some ⟨g24r10_, 0, none⟩))) HT_.out HW_.out (by kernel_rfl) (by kernel_rfl) ?_ ?_ ?_
  · exact ⟨none, 0, none, 0, none, 0, none, 0, 0, 0, .bool false, .bool false, .bool false, .bool false, .bool false, .bool false, by simp only [putSel, Bool.false_eq_true, if_false], HD221.out, fun h_ => absurd h_ (by decide), fun h_ => absurd h_ (by decide), fun h_ => absurd h_ (by decide), fun h_ => absurd h_ (by decide), fun h_ => absurd h_ (by decide), fun h_ => absurd h_ (by decide), fun h_ => absurd h_ (by decide), fun h_ => absurd h_ (by decide), fun h_ => absurd h_ (by decide), fun h_ => absurd h_ (by decide), fun h_ => absurd h_ (by decide), fun h_ => absurd h_ (by decide), fun h_ => absurd h_ (by decide), fun h_ => absurd h_ (by decide), fun h_ => absurd h_ (by decide), fun h_ => absurd h_ (by decide)⟩
  · skip
    clear HD221
    refine steps_cons ?_ ?_
    · rintro b a w' ⟨A24r1_0_, c24r1_0_, A24r1_6_, c24r1_6_, A24r4_0_, c24r4_0_, A24r4_6_, c24r4_6_, g24r9_, g24r10_, m1_, m4_, m5_, m6_, m9_, m10_, ha, Q_HD221, Q_O222, Q_O223, Q_O224, Q_O225, Q_BZ226, Q_Z228, Q_BZ229, Q_Z231, Q_BK227, Q_BK230, Q_X1_, Q_X4_, Q_X5_, Q_X6_, Q_X9_, Q_X10_⟩ hb_ hon hoff
      refine ⟨_, rfl, fun K hK => ?_⟩
      have e2 : a.tmps[2]? = some (.pointer (some ⟨w.heap.size, 0, none⟩)) := by rw [ha]; exact (putSel_off rfl).trans rfl
      replace ha := Aside0.mk ha
      have HD221 := Aside0.mk Q_HD221
      have hc0_ : w'.cell? ⟨w.heap.size, 0, none⟩ = some (.slice A0_0 l0_0.length c0_0) := (blk_cell (blk_below BK1.out HD221.out) 0).trans rfl
      have hc1_ : w'.cell? ⟨w.heap.size, 1, none⟩ = some (.int .i64 a0_1) := (blk_cell (blk_below BK1.out HD221.out) 1).trans rfl
      have hc2_ : w'.cell? ⟨w.heap.size, 2, none⟩ = some (.int .i64 a0_2) := (blk_cell (blk_below BK1.out HD221.out) 2).trans rfl
      have hc3_ : w'.cell? ⟨w.heap.size, 3, none⟩ = some (.int .i64 a0_3) := (blk_cell (blk_below BK1.out HD221.out) 3).trans rfl
      have hc4_ : w'.cell? ⟨w.heap.size, 4, none⟩ = some (.int .i64 a0_4) := (blk_cell (blk_below BK1.out HD221.out) 4).trans rfl
      have hc5_ : w'.cell? ⟨w.heap.size, 5, none⟩ = some (.int .i64 a0_5) := (blk_cell (blk_below BK1.out HD221.out) 5).trans rfl
      have hc6_ : w'.cell? ⟨w.heap.size, 6, none⟩ = some (.slice A0_6 l0_6.length c0_6) := (blk_cell (blk_below BK1.out HD221.out) 6).trans rfl
      refine value_ (w1 := w') (v := .agg #[.slice A0_0 l0_0.length c0_0, .int .i64 a0_1, .int .i64 a0_2, .int .i64 a0_3, .int .i64 a0_4, .int .i64 a0_5, .slice A0_6 l0_6.length c0_6]) (by rfl) rfl ?_ ?_
      · go_simp
        (try simp only [i64_w])
        try rfl
      refine hK.out _ _ ⟨A24r1_0_, c24r1_0_, A24r1_6_, c24r1_6_, A24r4_0_, c24r4_0_, A24r4_6_, c24r4_6_, g24r9_, g24r10_, m1_, m4_, m5_, m6_, m9_, m10_, (by rw [ha.out]; exact putSel_upk 0 hb_ rfl rfl rfl), Q_HD221, fun h0_ _ => absurd ((hoff 1 (by kernel_rfl)).symm.trans h0_) (by decide), fun h0_ _ => absurd ((hoff 1 (by kernel_rfl)).symm.trans h0_) (by decide), fun h0_ => absurd ((hoff 4 (by kernel_rfl)).symm.trans h0_) (by decide), fun h0_ => absurd ((hoff 4 (by kernel_rfl)).symm.trans h0_) (by decide), Q_BZ226, Q_Z228, Q_BZ229, Q_Z231, fun _ h1_ => absurd ((hoff 11 (by kernel_rfl)).symm.trans h1_) (by decide), fun _ h1_ => absurd ((hoff 12 (by kernel_rfl)).symm.trans h1_) (by decide), fun h0_ => absurd ((hoff 1 (by kernel_rfl)).symm.trans h0_) (by decide), fun h0_ => absurd ((hoff 4 (by kernel_rfl)).symm.trans h0_) (by decide), fun h0_ => absurd ((hoff 5 (by kernel_rfl)).symm.trans h0_) (by decide), fun h0_ => absurd ((hoff 6 (by kernel_rfl)).symm.trans h0_) (by decide), Q_X9_, Q_X10_⟩
    refine steps_cons ?_ ?_
    · rintro b a w' ⟨A24r1_0_, c24r1_0_, A24r1_6_, c24r1_6_, A24r4_0_, c24r4_0_, A24r4_6_, c24r4_6_, g24r9_, g24r10_, m1_, m4_, m5_, m6_, m9_, m10_, ha, Q_HD221, Q_O222, Q_O223, Q_O224, Q_O225, Q_BZ226, Q_Z228, Q_BZ229, Q_Z231, Q_BK227, Q_BK230, Q_X1_, Q_X4_, Q_X5_, Q_X6_, Q_X9_, Q_X10_⟩ hb_ hon hoff
      refine ⟨_, rfl, fun K hK => ?_⟩
      have e97 : a.tmps[97]? = some (.agg #[.slice A0_0 l0_0.length c0_0, .int .i64 a0_1, .int .i64 a0_2, .int .i64 a0_3, .int .i64 a0_4, .int .i64 a0_5, .slice A0_6 l0_6.length c0_6]) := by rw [ha]; exact putSel_on (e := (0, 97, .agg #[.slice A0_0 l0_0.length c0_0, .int .i64 a0_1, .int .i64 a0_2, .int .i64 a0_3, .int .i64 a0_4, .int .i64 a0_5, .slice A0_6 l0_6.length c0_6])) 0 rfl rfl (hon 0 (by kernel_rfl)) rfl
      replace ha := Aside0.mk ha
      have HD221 := Aside0.mk Q_HD221
      refine goes_ Try.func37 (by kernel_rfl) rfl #[.agg #[.slice A0_0 l0_0.length c0_0, .int .i64 a0_1, .int .i64 a0_2, .int .i64 a0_3, .int .i64 a0_4, .int .i64 a0_5, .slice A0_6 l0_6.length c0_6]] (by rfl) rfl rfl (by first | (simp only [List.map_toArray, List.map_cons, List.map_nil, Act.eval, Array.getD_eq_getD_getElem?, Option.getD_some, e97]; done) | (simp only [List.map_toArray, List.map_cons, List.map_nil, Act.eval, Array.getD_eq_getD_getElem?, Option.getD_some, e97]; rfl)) ?_
      with_reducible refine (laws_toArena.calls k A0_0 c0_0 l0_0 a0_1 a0_2 a0_3 a0_4 a0_5 A0_6 c0_6 l0_6 r14 r15 r16 r17 r18 r19 r20 w' (Kd.C_below (Kd.C_below HR0_0.out HB.out) HD221.out) HC0_0.out (Kd.C_below (Kd.C_below HR0_6.out HB.out) HD221.out) HC0_6.out e21.out).mono ?_
      rintro e wn1_ ⟨v1_0, v1_6, rfl, h1_0, h1_6, hb⟩
      refine ⟨_, rfl, ?_⟩
      obtain ⟨A24r1_0_n, c24r1_0_n, rfl⟩ := Kd.S_slice h1_0
      obtain ⟨A24r1_6_n, c24r1_6_n, rfl⟩ := Kd.R_slice h1_6
      refine hK.out _ _ ⟨A24r1_0_n, c24r1_0_n, A24r1_6_n, c24r1_6_n, A24r4_0_, c24r4_0_, A24r4_6_, c24r4_6_, g24r9_, g24r10_, (.agg #[.slice A24r1_0_n r14.length c24r1_0_n, .int .i64 r15, .int .i64 r16, .int .i64 r17, .int .i64 r18, .int .i64 r19, .slice A24r1_6_n r20.length c24r1_6_n]), m4_, m5_, m6_, m9_, m10_, (by rw [ha.out]; exact putSel_upk 1 hb_ rfl rfl rfl), below_step HD221.out hb, fun _ _ => Kd.S_lower (Kd.S_mono (Kd.S_bound h1_0) (fun k_ hk => trivial)) (below_size HD221.out), fun _ _ => Kd.R_lower (Kd.R_mono (Kd.R_bound h1_6) (fun k_ hk => trivial)) (below_size HD221.out), fun h0_ => absurd ((hoff 4 (by kernel_rfl)).symm.trans h0_) (by decide), fun h0_ => absurd ((hoff 4 (by kernel_rfl)).symm.trans h0_) (by decide), fun h0_ h1_ => blk_below (Q_BZ226 h0_ h1_) hb, Q_Z228, fun h0_ h1_ => blk_below (Q_BZ229 h0_ h1_) hb, Q_Z231, fun _ h1_ => absurd ((hoff 11 (by kernel_rfl)).symm.trans h1_) (by decide), fun _ h1_ => absurd ((hoff 12 (by kernel_rfl)).symm.trans h1_) (by decide), fun _ => rfl, fun h0_ => absurd ((hoff 4 (by kernel_rfl)).symm.trans h0_) (by decide), fun h0_ => absurd ((hoff 5 (by kernel_rfl)).symm.trans h0_) (by decide), fun h0_ => absurd ((hoff 6 (by kernel_rfl)).symm.trans h0_) (by decide), Q_X9_, Q_X10_⟩
    refine steps_cons ?_ ?_
    · rintro b a w' ⟨A24r1_0_, c24r1_0_, A24r1_6_, c24r1_6_, A24r4_0_, c24r4_0_, A24r4_6_, c24r4_6_, g24r9_, g24r10_, m1_, m4_, m5_, m6_, m9_, m10_, ha, Q_HD221, Q_O222, Q_O223, Q_O224, Q_O225, Q_BZ226, Q_Z228, Q_BZ229, Q_Z231, Q_BK227, Q_BK230, Q_X1_, Q_X4_, Q_X5_, Q_X6_, Q_X9_, Q_X10_⟩ hb_ hon hoff
      refine ⟨_, rfl, fun K hK => ?_⟩
      have e3 : a.tmps[3]? = some (.pointer (some ⟨w.heap.size + 1, 0, none⟩)) := by rw [ha]; exact (putSel_off rfl).trans rfl
      replace ha := Aside0.mk ha
      have HD221 := Aside0.mk Q_HD221
      have hc0_ : w'.cell? ⟨w.heap.size + 1, 0, none⟩ = some (.int .i64 a1_0) := (blk_cell (blk_below BK2.out HD221.out) 0).trans rfl
      have hc1_ : w'.cell? ⟨w.heap.size + 1, 1, none⟩ = some (.int .i64 a1_1) := (blk_cell (blk_below BK2.out HD221.out) 1).trans rfl
      refine value_ (w1 := w') (v := .agg #[.int .i64 a1_0, .int .i64 a1_1]) (by rfl) rfl ?_ ?_
      · go_simp
        (try simp only [i64_w])
        try rfl
      refine hK.out _ _ ⟨A24r1_0_, c24r1_0_, A24r1_6_, c24r1_6_, A24r4_0_, c24r4_0_, A24r4_6_, c24r4_6_, g24r9_, g24r10_, m1_, m4_, m5_, m6_, m9_, m10_, (by rw [ha.out]; exact putSel_upk 2 hb_ rfl rfl rfl), Q_HD221, Q_O222, Q_O223, fun h0_ => absurd ((hoff 4 (by kernel_rfl)).symm.trans h0_) (by decide), fun h0_ => absurd ((hoff 4 (by kernel_rfl)).symm.trans h0_) (by decide), Q_BZ226, Q_Z228, Q_BZ229, Q_Z231, fun _ h1_ => absurd ((hoff 11 (by kernel_rfl)).symm.trans h1_) (by decide), fun _ h1_ => absurd ((hoff 12 (by kernel_rfl)).symm.trans h1_) (by decide), Q_X1_, fun h0_ => absurd ((hoff 4 (by kernel_rfl)).symm.trans h0_) (by decide), fun h0_ => absurd ((hoff 5 (by kernel_rfl)).symm.trans h0_) (by decide), fun h0_ => absurd ((hoff 6 (by kernel_rfl)).symm.trans h0_) (by decide), Q_X9_, Q_X10_⟩
    refine steps_cons ?_ ?_
    · rintro b a w' ⟨A24r1_0_, c24r1_0_, A24r1_6_, c24r1_6_, A24r4_0_, c24r4_0_, A24r4_6_, c24r4_6_, g24r9_, g24r10_, m1_, m4_, m5_, m6_, m9_, m10_, ha, Q_HD221, Q_O222, Q_O223, Q_O224, Q_O225, Q_BZ226, Q_Z228, Q_BZ229, Q_Z231, Q_BK227, Q_BK230, Q_X1_, Q_X4_, Q_X5_, Q_X6_, Q_X9_, Q_X10_⟩ hb_ hon hoff
      refine ⟨_, rfl, fun K hK => ?_⟩
      have e99 : a.tmps[99]? = some (.agg #[.int .i64 a1_0, .int .i64 a1_1]) := by rw [ha]; exact putSel_on (e := (2, 99, .agg #[.int .i64 a1_0, .int .i64 a1_1])) 2 rfl rfl (hon 2 (by kernel_rfl)) rfl
      replace ha := Aside0.mk ha
      have HD221 := Aside0.mk Q_HD221
      have O222 := Aside0.mk (Q_O222 (hon 1 (by kernel_rfl)) (hoff 4 (by kernel_rfl)))
      have O223 := Aside0.mk (Q_O223 (hon 1 (by kernel_rfl)) (hoff 4 (by kernel_rfl)))
      refine goes_ Try.func38 (by kernel_rfl) rfl #[.agg #[.int .i64 a1_0, .int .i64 a1_1]] (by rfl) rfl rfl (by first | (simp only [List.map_toArray, List.map_cons, List.map_nil, Act.eval, Array.getD_eq_getD_getElem?, Option.getD_some, e99]; done) | (simp only [List.map_toArray, List.map_cons, List.map_nil, Act.eval, Array.getD_eq_getD_getElem?, Option.getD_some, e99]; rfl)) ?_
      with_reducible refine (laws_toAsked.calls a1_0 a1_1 r24 r25 w'  e26.out).mono ?_
      rintro e wn3_ ⟨rfl, hb⟩
      refine ⟨_, rfl, ?_⟩
      refine hK.out _ _ ⟨A24r1_0_, c24r1_0_, A24r1_6_, c24r1_6_, A24r4_0_, c24r4_0_, A24r4_6_, c24r4_6_, g24r9_, g24r10_, m1_, m4_, m5_, m6_, m9_, m10_, (by rw [ha.out]; exact putSel_upk 3 hb_ rfl rfl rfl), below_step HD221.out hb, fun _ _ => Kd.S_below O222.out hb, fun _ _ => Kd.R_below O223.out hb, fun h0_ => absurd ((hoff 4 (by kernel_rfl)).symm.trans h0_) (by decide), fun h0_ => absurd ((hoff 4 (by kernel_rfl)).symm.trans h0_) (by decide), fun h0_ h1_ => blk_below (Q_BZ226 h0_ h1_) hb, Q_Z228, fun h0_ h1_ => blk_below (Q_BZ229 h0_ h1_) hb, Q_Z231, fun _ h1_ => absurd ((hoff 11 (by kernel_rfl)).symm.trans h1_) (by decide), fun _ h1_ => absurd ((hoff 12 (by kernel_rfl)).symm.trans h1_) (by decide), Q_X1_, fun h0_ => absurd ((hoff 4 (by kernel_rfl)).symm.trans h0_) (by decide), fun h0_ => absurd ((hoff 5 (by kernel_rfl)).symm.trans h0_) (by decide), fun h0_ => absurd ((hoff 6 (by kernel_rfl)).symm.trans h0_) (by decide), Q_X9_, Q_X10_⟩
    refine steps_cons ?_ ?_
    · rintro b a w' ⟨A24r1_0_, c24r1_0_, A24r1_6_, c24r1_6_, A24r4_0_, c24r4_0_, A24r4_6_, c24r4_6_, g24r9_, g24r10_, m1_, m4_, m5_, m6_, m9_, m10_, ha, Q_HD221, Q_O222, Q_O223, Q_O224, Q_O225, Q_BZ226, Q_Z228, Q_BZ229, Q_Z231, Q_BK227, Q_BK230, Q_X1_, Q_X4_, Q_X5_, Q_X6_, Q_X9_, Q_X10_⟩ hb_ hon hoff
      refine ⟨_, rfl, fun K hK => ?_⟩
      have e98 : a.tmps[98]? = some (m1_) := by rw [ha]; exact putSel_on (e := (1, 98, m1_)) 1 rfl rfl (hon 1 (by kernel_rfl)) rfl
      rw [Q_X1_ (hon 1 (by kernel_rfl))] at e98
      have e100 : a.tmps[100]? = some (.agg #[.int .i64 r24, .int .i64 r25]) := by rw [ha]; exact putSel_on (e := (3, 100, .agg #[.int .i64 r24, .int .i64 r25])) 3 rfl rfl (hon 3 (by kernel_rfl)) rfl
      replace ha := Aside0.mk ha
      have HD221 := Aside0.mk Q_HD221
      have O222 := Aside0.mk (Q_O222 (hon 1 (by kernel_rfl)) hb_)
      have O223 := Aside0.mk (Q_O223 (hon 1 (by kernel_rfl)) hb_)
      refine goes_ Try.func45 (by kernel_rfl) rfl #[.agg #[.slice A24r1_0_ r14.length c24r1_0_, .int .i64 r15, .int .i64 r16, .int .i64 r17, .int .i64 r18, .int .i64 r19, .slice A24r1_6_ r20.length c24r1_6_], .agg #[.int .i64 r24, .int .i64 r25]] (by rfl) rfl rfl (by first | (simp only [List.map_toArray, List.map_cons, List.map_nil, Act.eval, Array.getD_eq_getD_getElem?, Option.getD_some, e98, e100]; done) | (simp only [List.map_toArray, List.map_cons, List.map_nil, Act.eval, Array.getD_eq_getD_getElem?, Option.getD_some, e98, e100]; rfl)) ?_
      with_reducible refine (impl_GiveZero.calls k A24r1_0_ c24r1_0_ r14 r15 r16 r17 r18 r19 A24r1_6_ c24r1_6_ r20 r24 r25 r27 r28 r29 r30 r31 r32 r33 r34 r35 r36 r37 r38 w' (Kd.S_reads' O222.out).2.2 (Kd.S_reads' O222.out).2.1 (Kd.R_reads' O223.out).2.2 (Kd.R_reads' O223.out).2.1 e78.out).mono ?_
      rintro e wn4_ ⟨v4_0, v4_6, rfl, h4_0, h4_6, hb⟩
      refine ⟨_, rfl, ?_⟩
      obtain ⟨A24r4_0_n, c24r4_0_n, rfl⟩ := Kd.S_slice h4_0
      obtain ⟨A24r4_6_n, c24r4_6_n, rfl⟩ := Kd.R_slice h4_6
      refine hK.out _ _ ⟨A24r1_0_, c24r1_0_, A24r1_6_, c24r1_6_, A24r4_0_n, c24r4_0_n, A24r4_6_n, c24r4_6_n, g24r9_, g24r10_, m1_, (.tuple #[.agg #[.slice A24r4_0_n r27.length c24r4_0_n, .int .i64 r28, .int .i64 r29, .int .i64 r30, .int .i64 r31, .int .i64 r32, .slice A24r4_6_n r33.length c24r4_6_n], .agg #[.int .i64 r34, .int .i64 r35, .int .i64 r36, .int .i64 r37], .bool r38]), m5_, m6_, m9_, m10_, (by rw [ha.out]; exact putSel_upk 4 hb_ rfl rfl rfl), below_step HD221.out hb, fun _ h1_ => absurd ((up_self b 4).symm.trans h1_) (by decide), fun _ h1_ => absurd ((up_self b 4).symm.trans h1_) (by decide), fun _ => Kd.S_lower (Kd.S_mono (Kd.S_bound h4_0) (fun k_ hk => trivial)) (below_size HD221.out), fun _ => Kd.R_lower (Kd.R_mono (Kd.R_bound h4_6) (fun k_ hk => trivial)) (below_size HD221.out), fun h0_ h1_ => blk_below (Q_BZ226 h0_ h1_) hb, Q_Z228, fun h0_ h1_ => blk_below (Q_BZ229 h0_ h1_) hb, Q_Z231, fun _ h1_ => absurd ((hoff 11 (by kernel_rfl)).symm.trans h1_) (by decide), fun _ h1_ => absurd ((hoff 12 (by kernel_rfl)).symm.trans h1_) (by decide), Q_X1_, fun _ => rfl, fun h0_ => absurd ((hoff 5 (by kernel_rfl)).symm.trans h0_) (by decide), fun h0_ => absurd ((hoff 6 (by kernel_rfl)).symm.trans h0_) (by decide), Q_X9_, Q_X10_⟩
    refine steps_cons ?_ ?_
    · rintro b a w' ⟨A24r1_0_, c24r1_0_, A24r1_6_, c24r1_6_, A24r4_0_, c24r4_0_, A24r4_6_, c24r4_6_, g24r9_, g24r10_, m1_, m4_, m5_, m6_, m9_, m10_, ha, Q_HD221, Q_O222, Q_O223, Q_O224, Q_O225, Q_BZ226, Q_Z228, Q_BZ229, Q_Z231, Q_BK227, Q_BK230, Q_X1_, Q_X4_, Q_X5_, Q_X6_, Q_X9_, Q_X10_⟩ hb_ hon hoff
      refine ⟨_, rfl, fun K hK => ?_⟩
      have e101 : a.tmps[101]? = some (m4_) := by rw [ha]; exact putSel_on (e := (4, 101, m4_)) 4 rfl rfl (hon 4 (by kernel_rfl)) rfl
      rw [Q_X4_ (hon 4 (by kernel_rfl))] at e101
      replace ha := Aside0.mk ha
      have HD221 := Aside0.mk Q_HD221
      have O224 := Aside0.mk (Q_O224 (hon 4 (by kernel_rfl)))
      have O225 := Aside0.mk (Q_O225 (hon 4 (by kernel_rfl)))
      refine value_ (w1 := w') (v := .tuple #[.agg #[.slice A24r4_0_ r27.length c24r4_0_, .int .i64 r28, .int .i64 r29, .int .i64 r30, .int .i64 r31, .int .i64 r32, .slice A24r4_6_ r33.length c24r4_6_], .agg #[.int .i64 r34, .int .i64 r35, .int .i64 r36, .int .i64 r37], .bool r38]) (by rfl) rfl ?_ ?_
      · go_simp
        (try simp only [i64_w])
        try rfl
      refine hK.out _ _ ⟨A24r1_0_, c24r1_0_, A24r1_6_, c24r1_6_, A24r4_0_, c24r4_0_, A24r4_6_, c24r4_6_, g24r9_, g24r10_, m1_, m4_, (.tuple #[.agg #[.slice A24r4_0_ r27.length c24r4_0_, .int .i64 r28, .int .i64 r29, .int .i64 r30, .int .i64 r31, .int .i64 r32, .slice A24r4_6_ r33.length c24r4_6_], .agg #[.int .i64 r34, .int .i64 r35, .int .i64 r36, .int .i64 r37], .bool r38]), m6_, m9_, m10_, (by rw [ha.out]; exact putSel_upk 5 hb_ rfl rfl rfl), Q_HD221, fun _ h1_ => absurd ((hon 4 (by kernel_rfl)).symm.trans h1_) (by decide), fun _ h1_ => absurd ((hon 4 (by kernel_rfl)).symm.trans h1_) (by decide), Q_O224, Q_O225, Q_BZ226, Q_Z228, Q_BZ229, Q_Z231, fun _ h1_ => absurd ((hoff 11 (by kernel_rfl)).symm.trans h1_) (by decide), fun _ h1_ => absurd ((hoff 12 (by kernel_rfl)).symm.trans h1_) (by decide), Q_X1_, Q_X4_, fun _ => rfl, fun h0_ => absurd ((hoff 6 (by kernel_rfl)).symm.trans h0_) (by decide), Q_X9_, Q_X10_⟩
    refine steps_cons ?_ ?_
    · rintro b a w' ⟨A24r1_0_, c24r1_0_, A24r1_6_, c24r1_6_, A24r4_0_, c24r4_0_, A24r4_6_, c24r4_6_, g24r9_, g24r10_, m1_, m4_, m5_, m6_, m9_, m10_, ha, Q_HD221, Q_O222, Q_O223, Q_O224, Q_O225, Q_BZ226, Q_Z228, Q_BZ229, Q_Z231, Q_BK227, Q_BK230, Q_X1_, Q_X4_, Q_X5_, Q_X6_, Q_X9_, Q_X10_⟩ hb_ hon hoff
      refine ⟨_, rfl, fun K hK => ?_⟩
      have e96 : a.tmps[96]? = some (m5_) := by rw [ha]; exact putSel_on (e := (5, 96, m5_)) 5 rfl rfl (hon 5 (by kernel_rfl)) rfl
      rw [Q_X5_ (hon 5 (by kernel_rfl))] at e96
      replace ha := Aside0.mk ha
      have HD221 := Aside0.mk Q_HD221
      have O224 := Aside0.mk (Q_O224 (hon 4 (by kernel_rfl)))
      have O225 := Aside0.mk (Q_O225 (hon 4 (by kernel_rfl)))
      refine value_ (w1 := w') (v := .agg #[.slice A24r4_0_ r27.length c24r4_0_, .int .i64 r28, .int .i64 r29, .int .i64 r30, .int .i64 r31, .int .i64 r32, .slice A24r4_6_ r33.length c24r4_6_]) (by rfl) rfl ?_ ?_
      · go_simp
        (try simp only [i64_w])
        try rfl
      refine hK.out _ _ ⟨A24r1_0_, c24r1_0_, A24r1_6_, c24r1_6_, A24r4_0_, c24r4_0_, A24r4_6_, c24r4_6_, g24r9_, g24r10_, m1_, m4_, m5_, (.agg #[.slice A24r4_0_ r27.length c24r4_0_, .int .i64 r28, .int .i64 r29, .int .i64 r30, .int .i64 r31, .int .i64 r32, .slice A24r4_6_ r33.length c24r4_6_]), m9_, m10_, (by rw [ha.out]; exact putSel_upk 6 hb_ rfl rfl rfl), Q_HD221, fun _ h1_ => absurd ((hon 4 (by kernel_rfl)).symm.trans h1_) (by decide), fun _ h1_ => absurd ((hon 4 (by kernel_rfl)).symm.trans h1_) (by decide), Q_O224, Q_O225, Q_BZ226, Q_Z228, Q_BZ229, Q_Z231, fun _ h1_ => absurd ((hoff 11 (by kernel_rfl)).symm.trans h1_) (by decide), fun _ h1_ => absurd ((hoff 12 (by kernel_rfl)).symm.trans h1_) (by decide), Q_X1_, Q_X4_, Q_X5_, fun _ => rfl, Q_X9_, Q_X10_⟩
    refine steps_cons ?_ ?_
    · rintro b a w' ⟨A24r1_0_, c24r1_0_, A24r1_6_, c24r1_6_, A24r4_0_, c24r4_0_, A24r4_6_, c24r4_6_, g24r9_, g24r10_, m1_, m4_, m5_, m6_, m9_, m10_, ha, Q_HD221, Q_O222, Q_O223, Q_O224, Q_O225, Q_BZ226, Q_Z228, Q_BZ229, Q_Z231, Q_BK227, Q_BK230, Q_X1_, Q_X4_, Q_X5_, Q_X6_, Q_X9_, Q_X10_⟩ hb_ hon hoff
      refine ⟨_, rfl, fun K hK => ?_⟩
      have e96 : a.tmps[96]? = some (m5_) := by rw [ha]; exact putSel_on (e := (5, 96, m5_)) 5 rfl rfl (hon 5 (by kernel_rfl)) rfl
      rw [Q_X5_ (hon 5 (by kernel_rfl))] at e96
      replace ha := Aside0.mk ha
      have HD221 := Aside0.mk Q_HD221
      have O224 := Aside0.mk (Q_O224 (hon 4 (by kernel_rfl)))
      have O225 := Aside0.mk (Q_O225 (hon 4 (by kernel_rfl)))
      refine value_ (w1 := w') (v := .agg #[.int .i64 r34, .int .i64 r35, .int .i64 r36, .int .i64 r37]) (by rfl) rfl ?_ ?_
      · go_simp
        (try simp only [i64_w])
        try rfl
      refine hK.out _ _ ⟨A24r1_0_, c24r1_0_, A24r1_6_, c24r1_6_, A24r4_0_, c24r4_0_, A24r4_6_, c24r4_6_, g24r9_, g24r10_, m1_, m4_, m5_, m6_, m9_, m10_, (by rw [ha.out]; exact putSel_upk 7 hb_ rfl rfl rfl), Q_HD221, fun _ h1_ => absurd ((hon 4 (by kernel_rfl)).symm.trans h1_) (by decide), fun _ h1_ => absurd ((hon 4 (by kernel_rfl)).symm.trans h1_) (by decide), Q_O224, Q_O225, Q_BZ226, Q_Z228, Q_BZ229, Q_Z231, Q_BK227, fun _ h1_ => absurd ((hoff 12 (by kernel_rfl)).symm.trans h1_) (by decide), Q_X1_, Q_X4_, Q_X5_, Q_X6_, Q_X9_, Q_X10_⟩
    refine steps_cons ?_ ?_
    · rintro b a w' ⟨A24r1_0_, c24r1_0_, A24r1_6_, c24r1_6_, A24r4_0_, c24r4_0_, A24r4_6_, c24r4_6_, g24r9_, g24r10_, m1_, m4_, m5_, m6_, m9_, m10_, ha, Q_HD221, Q_O222, Q_O223, Q_O224, Q_O225, Q_BZ226, Q_Z228, Q_BZ229, Q_Z231, Q_BK227, Q_BK230, Q_X1_, Q_X4_, Q_X5_, Q_X6_, Q_X9_, Q_X10_⟩ hb_ hon hoff
      refine ⟨_, rfl, fun K hK => ?_⟩
      have e96 : a.tmps[96]? = some (m5_) := by rw [ha]; exact putSel_on (e := (5, 96, m5_)) 5 rfl rfl (hon 5 (by kernel_rfl)) rfl
      rw [Q_X5_ (hon 5 (by kernel_rfl))] at e96
      replace ha := Aside0.mk ha
      have HD221 := Aside0.mk Q_HD221
      have O224 := Aside0.mk (Q_O224 (hon 4 (by kernel_rfl)))
      have O225 := Aside0.mk (Q_O225 (hon 4 (by kernel_rfl)))
      refine value_ (w1 := w') (v := .bool r38) (by rfl) rfl ?_ ?_
      · go_simp
        (try simp only [i64_w])
        try rfl
      refine hK.out _ _ ⟨A24r1_0_, c24r1_0_, A24r1_6_, c24r1_6_, A24r4_0_, c24r4_0_, A24r4_6_, c24r4_6_, g24r9_, g24r10_, m1_, m4_, m5_, m6_, m9_, m10_, (by rw [ha.out]; exact putSel_upk 8 hb_ rfl rfl rfl), Q_HD221, fun _ h1_ => absurd ((hon 4 (by kernel_rfl)).symm.trans h1_) (by decide), fun _ h1_ => absurd ((hon 4 (by kernel_rfl)).symm.trans h1_) (by decide), Q_O224, Q_O225, Q_BZ226, Q_Z228, Q_BZ229, Q_Z231, Q_BK227, Q_BK230, Q_X1_, Q_X4_, Q_X5_, Q_X6_, Q_X9_, Q_X10_⟩
    refine steps_cons ?_ ?_
    · rintro b a w' ⟨A24r1_0_, c24r1_0_, A24r1_6_, c24r1_6_, A24r4_0_, c24r4_0_, A24r4_6_, c24r4_6_, g24r9_, g24r10_, m1_, m4_, m5_, m6_, m9_, m10_, ha, Q_HD221, Q_O222, Q_O223, Q_O224, Q_O225, Q_BZ226, Q_Z228, Q_BZ229, Q_Z231, Q_BK227, Q_BK230, Q_X1_, Q_X4_, Q_X5_, Q_X6_, Q_X9_, Q_X10_⟩ hb_ hon hoff
      refine ⟨_, rfl, fun K hK => ?_⟩
      replace ha := Aside0.mk ha
      have HD221 := Aside0.mk Q_HD221
      refine box_step ?hg (N := 16) ?hd (cs := #[.slice none 0 0, .int .i64 0, .int .i64 0, .int .i64 0, .int .i64 0, .int .i64 0, .slice none 0 0]) (t := 70) ?hr ?_; (case hd => rfl); (case hg => rfl); (case hr => first | (go_simp; done) | (go_simp; rfl))
      intro g24r9_n hg wn9_ hbox hb
      refine hK.out _ _ ⟨A24r1_0_, c24r1_0_, A24r1_6_, c24r1_6_, A24r4_0_, c24r4_0_, A24r4_6_, c24r4_6_, g24r9_n, g24r10_, m1_, m4_, m5_, m6_, (.pointer (some ⟨g24r9_n, 0, none⟩)), m10_, (by rw [ha.out]; exact putSel_upk 9 hb_ rfl rfl rfl), below_step HD221.out hb, fun h0_ h1_ => Kd.S_below (Q_O222 h0_ h1_) hb, fun h0_ h1_ => Kd.R_below (Q_O223 h0_ h1_) hb, fun h0_ => Kd.S_below (Q_O224 h0_) hb, fun h0_ => Kd.R_below (Q_O225 h0_) hb, fun _ _ => hbox, fun _ => (by rw [hg]; exact below_size HD221.out), fun h0_ h1_ => blk_below (Q_BZ229 h0_ h1_) hb, Q_Z231, fun _ h1_ => absurd ((hoff 11 (by kernel_rfl)).symm.trans h1_) (by decide), fun _ h1_ => absurd ((hoff 12 (by kernel_rfl)).symm.trans h1_) (by decide), Q_X1_, Q_X4_, Q_X5_, Q_X6_, fun _ => rfl, Q_X10_⟩
    refine steps_cons ?_ ?_
    · rintro b a w' ⟨A24r1_0_, c24r1_0_, A24r1_6_, c24r1_6_, A24r4_0_, c24r4_0_, A24r4_6_, c24r4_6_, g24r9_, g24r10_, m1_, m4_, m5_, m6_, m9_, m10_, ha, Q_HD221, Q_O222, Q_O223, Q_O224, Q_O225, Q_BZ226, Q_Z228, Q_BZ229, Q_Z231, Q_BK227, Q_BK230, Q_X1_, Q_X4_, Q_X5_, Q_X6_, Q_X9_, Q_X10_⟩ hb_ hon hoff
      refine ⟨_, rfl, fun K hK => ?_⟩
      replace ha := Aside0.mk ha
      have HD221 := Aside0.mk Q_HD221
      refine box_step ?hg (N := 17) ?hd (cs := #[.int .i64 0, .int .i64 0, .int .i64 0, .int .i64 0]) (t := 32) ?hr ?_; (case hd => rfl); (case hg => rfl); (case hr => first | (go_simp; done) | (go_simp; rfl))
      intro g24r10_n hg wn10_ hbox hb
      refine hK.out _ _ ⟨A24r1_0_, c24r1_0_, A24r1_6_, c24r1_6_, A24r4_0_, c24r4_0_, A24r4_6_, c24r4_6_, g24r9_, g24r10_n, m1_, m4_, m5_, m6_, m9_, (.pointer (some ⟨g24r10_n, 0, none⟩)), (by rw [ha.out]; exact putSel_upk 10 hb_ rfl rfl rfl), below_step HD221.out hb, fun h0_ h1_ => Kd.S_below (Q_O222 h0_ h1_) hb, fun h0_ h1_ => Kd.R_below (Q_O223 h0_ h1_) hb, fun h0_ => Kd.S_below (Q_O224 h0_) hb, fun h0_ => Kd.R_below (Q_O225 h0_) hb, fun h0_ h1_ => blk_below (Q_BZ226 h0_ h1_) hb, Q_Z228, fun _ _ => hbox, fun _ => (by rw [hg]; exact below_size HD221.out), fun _ h1_ => absurd ((hoff 11 (by kernel_rfl)).symm.trans h1_) (by decide), fun _ h1_ => absurd ((hoff 12 (by kernel_rfl)).symm.trans h1_) (by decide), Q_X1_, Q_X4_, Q_X5_, Q_X6_, Q_X9_, fun _ => rfl⟩
    refine steps_cons ?_ ?_
    · rintro b a w' ⟨A24r1_0_, c24r1_0_, A24r1_6_, c24r1_6_, A24r4_0_, c24r4_0_, A24r4_6_, c24r4_6_, g24r9_, g24r10_, m1_, m4_, m5_, m6_, m9_, m10_, ha, Q_HD221, Q_O222, Q_O223, Q_O224, Q_O225, Q_BZ226, Q_Z228, Q_BZ229, Q_Z231, Q_BK227, Q_BK230, Q_X1_, Q_X4_, Q_X5_, Q_X6_, Q_X9_, Q_X10_⟩ hb_ hon hoff
      refine ⟨_, rfl, fun K hK => ?_⟩
      have e16 : a.tmps[16]? = some (m9_) := by rw [ha]; exact putSel_on (e := (9, 16, m9_)) 9 rfl rfl (hon 9 (by kernel_rfl)) rfl
      rw [Q_X9_ (hon 9 (by kernel_rfl))] at e16
      have e102 : a.tmps[102]? = some (m6_) := by rw [ha]; exact putSel_on (e := (6, 102, m6_)) 6 rfl rfl (hon 6 (by kernel_rfl)) rfl
      rw [Q_X6_ (hon 6 (by kernel_rfl))] at e102
      replace ha := Aside0.mk ha
      have HD221 := Aside0.mk Q_HD221
      have O224 := Aside0.mk (Q_O224 (hon 4 (by kernel_rfl)))
      have O225 := Aside0.mk (Q_O225 (hon 4 (by kernel_rfl)))
      have BZ226 := Aside0.mk (Q_BZ226 (hon 9 (by kernel_rfl)) hb_)
      have Z228 := Aside0.mk (Q_Z228 (hon 9 (by kernel_rfl)))
      have BZ229 := Aside0.mk (Q_BZ229 (hon 10 (by kernel_rfl)) (hoff 12 (by kernel_rfl)))
      have Z231 := Aside0.mk (Q_Z231 (hon 10 (by kernel_rfl)))
      have hs0_ : w'.cell? ⟨g24r9_, 0, none⟩ = some (.slice none 0 0) := (blk_cell BZ226.out 0).trans rfl
      have hf0_ := blk_frozen BZ226.out 0
      have hs1_ : w'.cell? ⟨g24r9_, 1, none⟩ = some (.int .i64 0) := (blk_cell BZ226.out 1).trans rfl
      have hf1_ := blk_frozen BZ226.out 1
      have hs2_ : w'.cell? ⟨g24r9_, 2, none⟩ = some (.int .i64 0) := (blk_cell BZ226.out 2).trans rfl
      have hf2_ := blk_frozen BZ226.out 2
      have hs3_ : w'.cell? ⟨g24r9_, 3, none⟩ = some (.int .i64 0) := (blk_cell BZ226.out 3).trans rfl
      have hf3_ := blk_frozen BZ226.out 3
      have hs4_ : w'.cell? ⟨g24r9_, 4, none⟩ = some (.int .i64 0) := (blk_cell BZ226.out 4).trans rfl
      have hf4_ := blk_frozen BZ226.out 4
      have hs5_ : w'.cell? ⟨g24r9_, 5, none⟩ = some (.int .i64 0) := (blk_cell BZ226.out 5).trans rfl
      have hf5_ := blk_frozen BZ226.out 5
      have hs6_ : w'.cell? ⟨g24r9_, 6, none⟩ = some (.slice none 0 0) := (blk_cell BZ226.out 6).trans rfl
      have hf6_ := blk_frozen BZ226.out 6
      have hl_ := blk_lt BZ226.out
      refine skip_ (w1 := ?_) (by rfl) rfl ?_ ?_
      rotate_left
      · go_simp
        rfl
      have hnew_ : ((World.setCell (World.setCell (World.setCell (World.setCell (World.setCell (World.setCell (World.setCell w' ⟨g24r9_, 0, none⟩ (.slice A24r4_0_ r27.length c24r4_0_)) ⟨g24r9_, 1, none⟩ (.int .i64 r28)) ⟨g24r9_, 2, none⟩ (.int .i64 r29)) ⟨g24r9_, 3, none⟩ (.int .i64 r30)) ⟨g24r9_, 4, none⟩ (.int .i64 r31)) ⟨g24r9_, 5, none⟩ (.int .i64 r32)) ⟨g24r9_, 6, none⟩ (.slice A24r4_6_ r33.length c24r4_6_))).heap[g24r9_]? = some (.cells #[.slice A24r4_0_ r27.length c24r4_0_, .int .i64 r28, .int .i64 r29, .int .i64 r30, .int .i64 r31, .int .i64 r32, .slice A24r4_6_ r33.length c24r4_6_] 70 (0, 0)) := (blk_put (cs := #[.slice A24r4_0_ r27.length c24r4_0_, .int .i64 r28, .int .i64 r29, .int .i64 r30, .int .i64 r31, .int .i64 r32, .slice none 0 0]) (cs' := #[.slice A24r4_0_ r27.length c24r4_0_, .int .i64 r28, .int .i64 r29, .int .i64 r30, .int .i64 r31, .int .i64 r32, .slice A24r4_6_ r33.length c24r4_6_]) (blk_put (cs := #[.slice A24r4_0_ r27.length c24r4_0_, .int .i64 r28, .int .i64 r29, .int .i64 r30, .int .i64 r31, .int .i64 0, .slice none 0 0]) (cs' := #[.slice A24r4_0_ r27.length c24r4_0_, .int .i64 r28, .int .i64 r29, .int .i64 r30, .int .i64 r31, .int .i64 r32, .slice none 0 0]) (blk_put (cs := #[.slice A24r4_0_ r27.length c24r4_0_, .int .i64 r28, .int .i64 r29, .int .i64 r30, .int .i64 0, .int .i64 0, .slice none 0 0]) (cs' := #[.slice A24r4_0_ r27.length c24r4_0_, .int .i64 r28, .int .i64 r29, .int .i64 r30, .int .i64 r31, .int .i64 0, .slice none 0 0]) (blk_put (cs := #[.slice A24r4_0_ r27.length c24r4_0_, .int .i64 r28, .int .i64 r29, .int .i64 0, .int .i64 0, .int .i64 0, .slice none 0 0]) (cs' := #[.slice A24r4_0_ r27.length c24r4_0_, .int .i64 r28, .int .i64 r29, .int .i64 r30, .int .i64 0, .int .i64 0, .slice none 0 0]) (blk_put (cs := #[.slice A24r4_0_ r27.length c24r4_0_, .int .i64 r28, .int .i64 0, .int .i64 0, .int .i64 0, .int .i64 0, .slice none 0 0]) (cs' := #[.slice A24r4_0_ r27.length c24r4_0_, .int .i64 r28, .int .i64 r29, .int .i64 0, .int .i64 0, .int .i64 0, .slice none 0 0]) (blk_put (cs := #[.slice A24r4_0_ r27.length c24r4_0_, .int .i64 0, .int .i64 0, .int .i64 0, .int .i64 0, .int .i64 0, .slice none 0 0]) (cs' := #[.slice A24r4_0_ r27.length c24r4_0_, .int .i64 r28, .int .i64 0, .int .i64 0, .int .i64 0, .int .i64 0, .slice none 0 0]) (blk_put (cs := #[.slice none 0 0, .int .i64 0, .int .i64 0, .int .i64 0, .int .i64 0, .int .i64 0, .slice none 0 0]) (cs' := #[.slice A24r4_0_ r27.length c24r4_0_, .int .i64 0, .int .i64 0, .int .i64 0, .int .i64 0, .int .i64 0, .slice none 0 0]) BZ226.out 0 (.slice A24r4_0_ r27.length c24r4_0_) rfl) 1 (.int .i64 r28) rfl) 2 (.int .i64 r29) rfl) 3 (.int .i64 r30) rfl) 4 (.int .i64 r31) rfl) 5 (.int .i64 r32) rfl) 6 (.slice A24r4_6_ r33.length c24r4_6_) rfl)
      have hg_ : w'.grownBy (World.setCell (World.setCell (World.setCell (World.setCell (World.setCell (World.setCell (World.setCell w' ⟨g24r9_, 0, none⟩ (.slice A24r4_0_ r27.length c24r4_0_)) ⟨g24r9_, 1, none⟩ (.int .i64 r28)) ⟨g24r9_, 2, none⟩ (.int .i64 r29)) ⟨g24r9_, 3, none⟩ (.int .i64 r30)) ⟨g24r9_, 4, none⟩ (.int .i64 r31)) ⟨g24r9_, 5, none⟩ (.int .i64 r32)) ⟨g24r9_, 6, none⟩ (.slice A24r4_6_ r33.length c24r4_6_)) (some g24r9_) := grown_set_ (grown_set_ (grown_set_ (grown_set_ (grown_set_ (grown_set_ (grown_set_ (World.grownBy.refl _ _) _ _) _ _) _ _) _ _) _ _) _ _) _ _
      generalize (World.setCell (World.setCell (World.setCell (World.setCell (World.setCell (World.setCell (World.setCell w' ⟨g24r9_, 0, none⟩ (.slice A24r4_0_ r27.length c24r4_0_)) ⟨g24r9_, 1, none⟩ (.int .i64 r28)) ⟨g24r9_, 2, none⟩ (.int .i64 r29)) ⟨g24r9_, 3, none⟩ (.int .i64 r30)) ⟨g24r9_, 4, none⟩ (.int .i64 r31)) ⟨g24r9_, 5, none⟩ (.int .i64 r32)) ⟨g24r9_, 6, none⟩ (.slice A24r4_6_ r33.length c24r4_6_)) = wn11_ at hnew_ hg_ ⊢
      refine hK.out _ _ ⟨A24r1_0_, c24r1_0_, A24r1_6_, c24r1_6_, A24r4_0_, c24r4_0_, A24r4_6_, c24r4_6_, g24r9_, g24r10_, m1_, m4_, m5_, m6_, m9_, m10_, (by rw [ha.out]; exact putSel_none (v := undef) rfl), below_grown_ HD221.out hg_ Z228.out, fun _ h1_ => absurd ((hon 4 (by kernel_rfl)).symm.trans h1_) (by decide), fun _ h1_ => absurd ((hon 4 (by kernel_rfl)).symm.trans h1_) (by decide), fun _ => Kd.S_mono (Kd.S_grown (Kd.S_types O224.out BZ226.out (by decide)) hg_ (fun k_ hk_ e_ => hk_.2 (Option.some.inj e_))) (fun _ h_ => h_.1), fun _ => Kd.R_mono (Kd.R_grown (Kd.R_types O225.out BZ226.out (by decide)) hg_ (fun k_ hk_ e_ => hk_.2 (Option.some.inj e_))) (fun _ h_ => h_.1), fun _ h1_ => absurd ((up_self b 11).symm.trans h1_) (by decide), Q_Z228, fun _ _ => blk_grown BZ229.out hg_ (fun e_ => Blk_ne BZ229.out BZ226.out (by decide) (Option.some.inj e_)), Q_Z231, fun _ _ => hnew_, fun _ h1_ => absurd ((hoff 12 (by kernel_rfl)).symm.trans h1_) (by decide), Q_X1_, Q_X4_, Q_X5_, Q_X6_, Q_X9_, Q_X10_⟩
    refine steps_cons ?_ ?_
    · rintro b a w' ⟨A24r1_0_, c24r1_0_, A24r1_6_, c24r1_6_, A24r4_0_, c24r4_0_, A24r4_6_, c24r4_6_, g24r9_, g24r10_, m1_, m4_, m5_, m6_, m9_, m10_, ha, Q_HD221, Q_O222, Q_O223, Q_O224, Q_O225, Q_BZ226, Q_Z228, Q_BZ229, Q_Z231, Q_BK227, Q_BK230, Q_X1_, Q_X4_, Q_X5_, Q_X6_, Q_X9_, Q_X10_⟩ hb_ hon hoff
      refine ⟨_, rfl, fun K hK => ?_⟩
      have e17 : a.tmps[17]? = some (m10_) := by rw [ha]; exact putSel_on (e := (10, 17, m10_)) 10 rfl rfl (hon 10 (by kernel_rfl)) rfl
      rw [Q_X10_ (hon 10 (by kernel_rfl))] at e17
      have e103 : a.tmps[103]? = some (.agg #[.int .i64 r34, .int .i64 r35, .int .i64 r36, .int .i64 r37]) := by rw [ha]; exact putSel_on (e := (7, 103, .agg #[.int .i64 r34, .int .i64 r35, .int .i64 r36, .int .i64 r37])) 7 rfl rfl (hon 7 (by kernel_rfl)) rfl
      replace ha := Aside0.mk ha
      have HD221 := Aside0.mk Q_HD221
      have O224 := Aside0.mk (Q_O224 (hon 4 (by kernel_rfl)))
      have O225 := Aside0.mk (Q_O225 (hon 4 (by kernel_rfl)))
      have Z228 := Aside0.mk (Q_Z228 (hon 9 (by kernel_rfl)))
      have BZ229 := Aside0.mk (Q_BZ229 (hon 10 (by kernel_rfl)) hb_)
      have Z231 := Aside0.mk (Q_Z231 (hon 10 (by kernel_rfl)))
      have BK227 := Aside0.mk (Q_BK227 (hon 9 (by kernel_rfl)) (hon 11 (by kernel_rfl)))
      have hs0_ : w'.cell? ⟨g24r10_, 0, none⟩ = some (.int .i64 0) := (blk_cell BZ229.out 0).trans rfl
      have hf0_ := blk_frozen BZ229.out 0
      have hs1_ : w'.cell? ⟨g24r10_, 1, none⟩ = some (.int .i64 0) := (blk_cell BZ229.out 1).trans rfl
      have hf1_ := blk_frozen BZ229.out 1
      have hs2_ : w'.cell? ⟨g24r10_, 2, none⟩ = some (.int .i64 0) := (blk_cell BZ229.out 2).trans rfl
      have hf2_ := blk_frozen BZ229.out 2
      have hs3_ : w'.cell? ⟨g24r10_, 3, none⟩ = some (.int .i64 0) := (blk_cell BZ229.out 3).trans rfl
      have hf3_ := blk_frozen BZ229.out 3
      have hl_ := blk_lt BZ229.out
      refine skip_ (w1 := ?_) (by rfl) rfl ?_ ?_
      rotate_left
      · go_simp
        rfl
      have hnew_ : ((World.setCell (World.setCell (World.setCell (World.setCell w' ⟨g24r10_, 0, none⟩ (.int .i64 r34)) ⟨g24r10_, 1, none⟩ (.int .i64 r35)) ⟨g24r10_, 2, none⟩ (.int .i64 r36)) ⟨g24r10_, 3, none⟩ (.int .i64 r37))).heap[g24r10_]? = some (.cells #[.int .i64 r34, .int .i64 r35, .int .i64 r36, .int .i64 r37] 32 (0, 0)) := (blk_put (cs := #[.int .i64 r34, .int .i64 r35, .int .i64 r36, .int .i64 0]) (cs' := #[.int .i64 r34, .int .i64 r35, .int .i64 r36, .int .i64 r37]) (blk_put (cs := #[.int .i64 r34, .int .i64 r35, .int .i64 0, .int .i64 0]) (cs' := #[.int .i64 r34, .int .i64 r35, .int .i64 r36, .int .i64 0]) (blk_put (cs := #[.int .i64 r34, .int .i64 0, .int .i64 0, .int .i64 0]) (cs' := #[.int .i64 r34, .int .i64 r35, .int .i64 0, .int .i64 0]) (blk_put (cs := #[.int .i64 0, .int .i64 0, .int .i64 0, .int .i64 0]) (cs' := #[.int .i64 r34, .int .i64 0, .int .i64 0, .int .i64 0]) BZ229.out 0 (.int .i64 r34) rfl) 1 (.int .i64 r35) rfl) 2 (.int .i64 r36) rfl) 3 (.int .i64 r37) rfl)
      have hg_ : w'.grownBy (World.setCell (World.setCell (World.setCell (World.setCell w' ⟨g24r10_, 0, none⟩ (.int .i64 r34)) ⟨g24r10_, 1, none⟩ (.int .i64 r35)) ⟨g24r10_, 2, none⟩ (.int .i64 r36)) ⟨g24r10_, 3, none⟩ (.int .i64 r37)) (some g24r10_) := grown_set_ (grown_set_ (grown_set_ (grown_set_ (World.grownBy.refl _ _) _ _) _ _) _ _) _ _
      generalize (World.setCell (World.setCell (World.setCell (World.setCell w' ⟨g24r10_, 0, none⟩ (.int .i64 r34)) ⟨g24r10_, 1, none⟩ (.int .i64 r35)) ⟨g24r10_, 2, none⟩ (.int .i64 r36)) ⟨g24r10_, 3, none⟩ (.int .i64 r37)) = wn12_ at hnew_ hg_ ⊢
      refine hK.out _ _ ⟨A24r1_0_, c24r1_0_, A24r1_6_, c24r1_6_, A24r4_0_, c24r4_0_, A24r4_6_, c24r4_6_, g24r9_, g24r10_, m1_, m4_, m5_, m6_, m9_, m10_, (by rw [ha.out]; exact putSel_none (v := undef) rfl), below_grown_ HD221.out hg_ Z231.out, fun _ h1_ => absurd ((hon 4 (by kernel_rfl)).symm.trans h1_) (by decide), fun _ h1_ => absurd ((hon 4 (by kernel_rfl)).symm.trans h1_) (by decide), fun _ => Kd.S_mono (Kd.S_grown (Kd.S_types O224.out BZ229.out (by decide)) hg_ (fun k_ hk_ e_ => hk_.2 (Option.some.inj e_))) (fun _ h_ => h_.1), fun _ => Kd.R_mono (Kd.R_grown (Kd.R_types O225.out BZ229.out (by decide)) hg_ (fun k_ hk_ e_ => hk_.2 (Option.some.inj e_))) (fun _ h_ => h_.1), fun _ h1_ => absurd ((hon 11 (by kernel_rfl)).symm.trans h1_) (by decide), Q_Z228, fun _ h1_ => absurd ((up_self b 12).symm.trans h1_) (by decide), Q_Z231, fun _ _ => blk_grown BK227.out hg_ (fun e_ => Blk_ne BK227.out BZ229.out (by decide) (Option.some.inj e_)), fun _ _ => hnew_, Q_X1_, Q_X4_, Q_X5_, Q_X6_, Q_X9_, Q_X10_⟩
    refine steps_cons ?_ ?_
    · rintro b a w' ⟨A24r1_0_, c24r1_0_, A24r1_6_, c24r1_6_, A24r4_0_, c24r4_0_, A24r4_6_, c24r4_6_, g24r9_, g24r10_, m1_, m4_, m5_, m6_, m9_, m10_, ha, Q_HD221, Q_O222, Q_O223, Q_O224, Q_O225, Q_BZ226, Q_Z228, Q_BZ229, Q_Z231, Q_BK227, Q_BK230, Q_X1_, Q_X4_, Q_X5_, Q_X6_, Q_X9_, Q_X10_⟩ hb_ hon hoff
      refine ⟨_, rfl, fun K hK => ?_⟩
      have e104 : a.tmps[104]? = some (.bool r38) := by rw [ha]; exact putSel_on (e := (8, 104, .bool r38)) 8 rfl rfl (hon 8 (by kernel_rfl)) rfl
      replace ha := Aside0.mk ha
      have HD221 := Aside0.mk Q_HD221
      have O224 := Aside0.mk (Q_O224 (hon 4 (by kernel_rfl)))
      have O225 := Aside0.mk (Q_O225 (hon 4 (by kernel_rfl)))
      have Z228 := Aside0.mk (Q_Z228 (hon 9 (by kernel_rfl)))
      have Z231 := Aside0.mk (Q_Z231 (hon 10 (by kernel_rfl)))
      have BK227 := Aside0.mk (Q_BK227 (hon 9 (by kernel_rfl)) (hon 11 (by kernel_rfl)))
      have BK230 := Aside0.mk (Q_BK230 (hon 10 (by kernel_rfl)) (hon 12 (by kernel_rfl)))
      refine value_ (w1 := w') (v := .bool r38) (by rfl) rfl ?_ ?_
      · go_simp
        (try simp only [i64_w])
        try rfl
      refine hK.out _ _ ⟨A24r1_0_, c24r1_0_, A24r1_6_, c24r1_6_, A24r4_0_, c24r4_0_, A24r4_6_, c24r4_6_, g24r9_, g24r10_, m1_, m4_, m5_, m6_, m9_, m10_, (by rw [ha.out]; exact putSel_upk 11 hb_ rfl rfl rfl), Q_HD221, fun _ h1_ => absurd ((hon 4 (by kernel_rfl)).symm.trans h1_) (by decide), fun _ h1_ => absurd ((hon 4 (by kernel_rfl)).symm.trans h1_) (by decide), Q_O224, Q_O225, fun _ h1_ => absurd ((hon 11 (by kernel_rfl)).symm.trans h1_) (by decide), Q_Z228, fun _ h1_ => absurd ((hon 12 (by kernel_rfl)).symm.trans h1_) (by decide), Q_Z231, Q_BK227, Q_BK230, Q_X1_, Q_X4_, Q_X5_, Q_X6_, Q_X9_, Q_X10_⟩
    exact steps_nil
  rintro b a w232 hall ⟨A24r1_0_, c24r1_0_, A24r1_6_, c24r1_6_, A24r4_0_, c24r4_0_, A24r4_6_, c24r4_6_, g24r9_, g24r10_, m1_, m4_, m5_, m6_, m9_, m10_, ha, Q_HD221, Q_O222, Q_O223, Q_O224, Q_O225, Q_BZ226, Q_Z228, Q_BZ229, Q_Z231, Q_BK227, Q_BK230, Q_X1_, Q_X4_, Q_X5_, Q_X6_, Q_X9_, Q_X10_⟩
  clear HD221
  have hb0_ := hall 0 (by kernel_rfl)
  have hb1_ := hall 1 (by kernel_rfl)
  have hb2_ := hall 2 (by kernel_rfl)
  have hb3_ := hall 3 (by kernel_rfl)
  have hb4_ := hall 4 (by kernel_rfl)
  have hb5_ := hall 5 (by kernel_rfl)
  have hb6_ := hall 6 (by kernel_rfl)
  have hb7_ := hall 7 (by kernel_rfl)
  have hb8_ := hall 8 (by kernel_rfl)
  have hb9_ := hall 9 (by kernel_rfl)
  have hb10_ := hall 10 (by kernel_rfl)
  have hb11_ := hall 11 (by kernel_rfl)
  have hb12_ := hall 12 (by kernel_rfl)
  have hb13_ := hall 13 (by kernel_rfl)
  subst ha
  obtain rfl := Q_X1_ hb1_
  obtain rfl := Q_X4_ hb4_
  obtain rfl := Q_X5_ hb5_
  obtain rfl := Q_X6_ hb6_
  obtain rfl := Q_X9_ hb9_
  obtain rfl := Q_X10_ hb10_
  simp only [putSel, hb0_, hb1_, hb2_, hb3_, hb4_, hb5_, hb6_, hb7_, hb8_, hb9_, hb10_, hb11_, hb12_, hb13_, if_true, Act.put, List.setIfInBounds_toArray, List.set_cons_zero, List.set_cons_succ]
  have HD221 := Aside0.mk Q_HD221
  clear Q_HD221
  clear Q_O222
  clear Q_O223
  have O224 := Aside0.mk (Q_O224 hb4_)
  clear Q_O224
  have O225 := Aside0.mk (Q_O225 hb4_)
  clear Q_O225
  clear Q_BZ226
  have Z228 := Aside0.mk (Q_Z228 hb9_)
  clear Q_Z228
  clear Q_BZ229
  have Z231 := Aside0.mk (Q_Z231 hb10_)
  clear Q_Z231
  have BK227 := Aside0.mk (Q_BK227 hb9_ hb11_)
  clear Q_BK227
  have BK230 := Aside0.mk (Q_BK230 hb10_ hb12_)
  clear Q_BK230
  clear hall hb0_ hb1_ hb2_ hb3_ hb4_ hb5_ hb6_ hb7_ hb8_ hb9_ hb10_ hb11_ hb12_ hb13_
  replace BK1 := Aside0.mk (blk_below BK1.out HD221.out)
  replace BK2 := Aside0.mk (blk_below BK2.out HD221.out)
  replace O40 := Aside0.mk (Kd.S_below O40.out HD221.out)
  replace O41 := Aside0.mk (Kd.R_below O41.out HD221.out)
  replace BK43 := Aside0.mk (blk_below BK43.out HD221.out)
  replace BK46 := Aside0.mk (blk_below BK46.out HD221.out)
  replace O79 := Aside0.mk (Kd.S_below O79.out HD221.out)
  replace O80 := Aside0.mk (Kd.R_below O80.out HD221.out)
  replace BK82 := Aside0.mk (blk_below BK82.out HD221.out)
  replace O224 := Aside0.mk (show Kd.S (Kd.slice 5 (Kd.int .u8)) 29 w232 w.heap.size (Seg w219.heap.size w232.heap.size w232 [29, 5]) (.slice A24r4_0_ r27.length c24r4_0_) r27 from Kd.S_lower (Kd.S_mono (Kd.S_bound O224.out) (fun k_ hk => ⟨hk.2.1, hk.2.2.1, hk.2.2.2⟩)) (below_size HB.out))
  replace O225 := Aside0.mk (show Kd.R (Kd.int .i64) 3 w232 w.heap.size (Seg w219.heap.size w232.heap.size w232 [3]) (.slice A24r4_6_ r33.length c24r4_6_) r33 from Kd.R_lower (Kd.R_mono (Kd.R_bound O225.out) (fun k_ hk => ⟨hk.2.1, hk.2.2.1, hk.2.2.2⟩)) (below_size HB.out))
  replace HB := Aside0.mk (below_step HB.out HD221.out)
  have Z233 := Aside0.mk (below_size HD221.out)
  clear HD221
  have Z234 := Aside0.mk (blk_lt BK227.out)
  have NS235 := Aside0.mk (show ¬ Seg w219.heap.size w232.heap.size w232 [29, 5] g24r9_ from fun hs_ => Ty_not hs_.2.2 BK227.out (by decide))
  have NS236 := Aside0.mk (show ¬ Seg w219.heap.size w232.heap.size w232 [3] g24r9_ from fun hs_ => Ty_not hs_.2.2 BK227.out (by decide))
  have Z237 := Aside0.mk (blk_lt BK230.out)
  have NS238 := Aside0.mk (show ¬ Seg w219.heap.size w232.heap.size w232 [29, 5] g24r10_ from fun hs_ => Ty_not hs_.2.2 BK230.out (by decide))
  have NS239 := Aside0.mk (show ¬ Seg w219.heap.size w232.heap.size w232 [3] g24r10_ from fun hs_ => Ty_not hs_.2.2 BK230.out (by decide))
  clear BK1 BK2
  have hz240 : w232.cell? ⟨g24r9_, 0, none⟩ = some (.slice A24r4_0_ r27.length c24r4_0_) := (blk_cell BK227.out 0).trans rfl
  have hz241 : w232.cell? ⟨g24r9_, 1, none⟩ = some (.int .i64 r28) := (blk_cell BK227.out 1).trans rfl
  have hz242 : w232.cell? ⟨g24r9_, 2, none⟩ = some (.int .i64 r29) := (blk_cell BK227.out 2).trans rfl
  have hz243 : w232.cell? ⟨g24r9_, 3, none⟩ = some (.int .i64 r30) := (blk_cell BK227.out 3).trans rfl
  have hz244 : w232.cell? ⟨g24r9_, 4, none⟩ = some (.int .i64 r31) := (blk_cell BK227.out 4).trans rfl
  have hz245 : w232.cell? ⟨g24r9_, 5, none⟩ = some (.int .i64 r32) := (blk_cell BK227.out 5).trans rfl
  have hz246 : w232.cell? ⟨g24r9_, 6, none⟩ = some (.slice A24r4_6_ r33.length c24r4_6_) := (blk_cell BK227.out 6).trans rfl
  have hl247 : g24r9_ < w232.heap.size := blk_lt BK227.out
  have hz248 : w232.cell? ⟨g5r9_, 0, none⟩ = some (.slice A5r4_0_ r27.length c5r4_0_) := (blk_cell BK43.out 0).trans rfl
  have hz249 : w232.cell? ⟨g5r9_, 1, none⟩ = some (.int .i64 r28) := (blk_cell BK43.out 1).trans rfl
  have hz250 : w232.cell? ⟨g5r9_, 2, none⟩ = some (.int .i64 r29) := (blk_cell BK43.out 2).trans rfl
  have hz251 : w232.cell? ⟨g5r9_, 3, none⟩ = some (.int .i64 r30) := (blk_cell BK43.out 3).trans rfl
  have hz252 : w232.cell? ⟨g5r9_, 4, none⟩ = some (.int .i64 r31) := (blk_cell BK43.out 4).trans rfl
  have hz253 : w232.cell? ⟨g5r9_, 5, none⟩ = some (.int .i64 r32) := (blk_cell BK43.out 5).trans rfl
  have hz254 : w232.cell? ⟨g5r9_, 6, none⟩ = some (.slice A5r4_6_ r33.length c5r4_6_) := (blk_cell BK43.out 6).trans rfl
  have hl255 : g5r9_ < w232.heap.size := blk_lt BK43.out
  go_wp2_with fail
  clear hz240 hz241 hz242 hz243 hz244 hz245 hz246 hl247 hz248 hz249 hz250 hz251 hz252 hz253 hz254 hl255
  have e257 := e112
  refine (laws_eqArena.calls k A24r4_0_ c24r4_0_ r27 r28 r29 r30 r31 r32 A24r4_6_ c24r4_6_ r33 A5r4_0_ c5r4_0_ r27 r28 r29 r30 r31 r32 A5r4_6_ c5r4_6_ r33 true w232 (Kd.S_reads' O224.out).2.2 (Kd.S_reads' O224.out).2.1 (Kd.R_reads' O225.out).2.2 (Kd.R_reads' O225.out).2.1 (Kd.S_reads' O40.out).2.2 (Kd.S_reads' O40.out).2.1 (Kd.R_reads' O41.out).2.2 (Kd.R_reads' O41.out).2.1 e257.out).mono ?_
  rintro e w256 ⟨rfl, hb⟩
  replace O40 := Aside0.mk (Kd.S_below O40.out hb)
  replace O41 := Aside0.mk (Kd.R_below O41.out hb)
  replace BK43 := Aside0.mk (blk_below BK43.out hb)
  replace BK46 := Aside0.mk (blk_below BK46.out hb)
  replace O79 := Aside0.mk (Kd.S_below O79.out hb)
  replace O80 := Aside0.mk (Kd.R_below O80.out hb)
  replace BK82 := Aside0.mk (blk_below BK82.out hb)
  replace O224 := Aside0.mk (Kd.S_below O224.out hb)
  replace O225 := Aside0.mk (Kd.R_below O225.out hb)
  replace BK227 := Aside0.mk (blk_below BK227.out hb)
  replace BK230 := Aside0.mk (blk_below BK230.out hb)
  have Z258 := Aside0.mk (below_size hb)
  replace HB := Aside0.mk (below_step HB.out hb)
  clear hb 
  clear O40 O41 BK43 O224 O225 BK227
  have hz259 : w256.cell? ⟨g24r10_, 0, none⟩ = some (.int .i64 r34) := (blk_cell BK230.out 0).trans rfl
  have hz260 : w256.cell? ⟨g24r10_, 1, none⟩ = some (.int .i64 r35) := (blk_cell BK230.out 1).trans rfl
  have hz261 : w256.cell? ⟨g24r10_, 2, none⟩ = some (.int .i64 r36) := (blk_cell BK230.out 2).trans rfl
  have hz262 : w256.cell? ⟨g24r10_, 3, none⟩ = some (.int .i64 r37) := (blk_cell BK230.out 3).trans rfl
  have hl263 : g24r10_ < w256.heap.size := blk_lt BK230.out
  have hz264 : w256.cell? ⟨g5r10_, 0, none⟩ = some (.int .i64 r34) := (blk_cell BK46.out 0).trans rfl
  have hz265 : w256.cell? ⟨g5r10_, 1, none⟩ = some (.int .i64 r35) := (blk_cell BK46.out 1).trans rfl
  have hz266 : w256.cell? ⟨g5r10_, 2, none⟩ = some (.int .i64 r36) := (blk_cell BK46.out 2).trans rfl
  have hz267 : w256.cell? ⟨g5r10_, 3, none⟩ = some (.int .i64 r37) := (blk_cell BK46.out 3).trans rfl
  have hl268 : g5r10_ < w256.heap.size := blk_lt BK46.out
  go_wp2_with fail
  clear hz259 hz260 hz261 hz262 hl263 hz264 hz265 hz266 hz267 hl268
  have e270 := e125
  refine (laws_eqWindow.calls r34 r35 r36 r37 r34 r35 r36 r37 true w256  e270.out).mono ?_
  rintro e w269 ⟨rfl, hb⟩
  replace BK46 := Aside0.mk (blk_below BK46.out hb)
  replace O79 := Aside0.mk (Kd.S_below O79.out hb)
  replace O80 := Aside0.mk (Kd.R_below O80.out hb)
  replace BK82 := Aside0.mk (blk_below BK82.out hb)
  replace BK230 := Aside0.mk (blk_below BK230.out hb)
  have Z271 := Aside0.mk (below_size hb)
  replace HB := Aside0.mk (below_step HB.out hb)
  clear hb 
  clear BK46 BK230
  have hz272 : w269.cell? ⟨g7r8_, 0, none⟩ = some (.slice A7r3_0_ r27.length c7r3_0_) := (blk_cell BK82.out 0).trans rfl
  have hz273 : w269.cell? ⟨g7r8_, 1, none⟩ = some (.int .i64 r28) := (blk_cell BK82.out 1).trans rfl
  have hz274 : w269.cell? ⟨g7r8_, 2, none⟩ = some (.int .i64 r29) := (blk_cell BK82.out 2).trans rfl
  have hz275 : w269.cell? ⟨g7r8_, 3, none⟩ = some (.int .i64 r30) := (blk_cell BK82.out 3).trans rfl
  have hz276 : w269.cell? ⟨g7r8_, 4, none⟩ = some (.int .i64 r31) := (blk_cell BK82.out 4).trans rfl
  have hz277 : w269.cell? ⟨g7r8_, 5, none⟩ = some (.int .i64 r32) := (blk_cell BK82.out 5).trans rfl
  have hz278 : w269.cell? ⟨g7r8_, 6, none⟩ = some (.slice A7r3_6_ r33.length c7r3_6_) := (blk_cell BK82.out 6).trans rfl
  have hl279 : g7r8_ < w269.heap.size := blk_lt BK82.out
  go_wp2_with fail
  clear hz272 hz273 hz274 hz275 hz276 hz277 hz278 hl279
  rw [hn206_.out]
  rw [hn207_.out]
  refine (laws_heldArena.calls k A7r3_0_ c7r3_0_ x200 r28 r29 r30 r31 r32 A7r3_6_ c7r3_6_ x201 1 m199 w269 (Kd.S_reads' O79.out).2.2 (Nat.le_trans (Nat.le_of_eq hn206_.out.symm) (Kd.S_reads' O79.out).2.1) (Kd.R_reads' O80.out).2.2 (Nat.le_trans (Nat.le_of_eq hn207_.out.symm) (Kd.R_reads' O80.out).2.1) e217.out).mono ?_
  rintro e w280 ⟨rfl, hb⟩
  replace O79 := Aside0.mk (Kd.S_below O79.out hb)
  replace O80 := Aside0.mk (Kd.R_below O80.out hb)
  replace BK82 := Aside0.mk (blk_below BK82.out hb)
  have Z282 := Aside0.mk (below_size hb)
  replace HB := Aside0.mk (below_step HB.out hb)
  clear hb 
  try rw [← hn207_.out]
  try rw [← hn206_.out]
  clear O79 O80 BK82
  go_wp2_with fail
  go_ret
  exact ⟨rfl, HB.out⟩

set_option maxHeartbeats 8000000 in
set_option maxRecDepth 100000 in
theorem FnExactGiveZero.walk_big0 (k : Nat) (A0_0 : Option Addr) (c0_0 : Nat) (l0_0 : List (List Int)) (a0_1 : Int) (a0_2 : Int) (a0_3 : Int) (a0_4 : Int) (a0_5 : Int) (A0_6 : Option Addr) (c0_6 : Nat) (l0_6 : List Int) (a1_0 : Int) (a1_1 : Int) (r8 : Int) (w : World) (HR0_0 : Kd.C (Kd.slice 5 (Kd.int .u8)) w A0_0 l0_0.length l0_0) (HC0_0 : l0_0.length ≤ c0_0) (HR0_6 : Kd.C (Kd.int .i64) w A0_6 l0_6.length l0_6) (HC0_6 : l0_6.length ≤ c0_6) (e9 : laws_szArena.f k l0_0 a0_1 a0_2 a0_3 a0_4 a0_5 l0_6 1048576 = some r8) (n_r8 : r8 < 0) :
    Calls Try.prog 7 #[.agg #[.slice A0_0 l0_0.length c0_0, .int .i64 a0_1, .int .i64 a0_2, .int .i64 a0_3, .int .i64 a0_4, .int .i64 a0_5, .slice A0_6 l0_6.length c0_6], .agg #[.int .i64 a1_0, .int .i64 a1_1]] w fun e w' => e = .returned (.bool true) ∧ Below w.heap.size w w' := by
  have hu32 := Try.underlying32
  have hu65 := Try.underlying65
  have hu67 := Try.underlying67
  have hu70 := Try.underlying70
  replace HR0_0 := Aside0.mk HR0_0
  replace HC0_0 := Aside0.mk HC0_0
  replace HR0_6 := Aside0.mk HR0_6
  replace HC0_6 := Aside0.mk HC0_6
  replace e9 := Aside0.mk e9
  replace n_r8 := decide_eq_true n_r8
  have HB := Aside0.mk (Below.refl w.heap.size w)
  go_enter Try.func7, Try.ntmps7
  go_wp2_with fail
  have HA3 := Below.alloc (Below.refl w.heap.size w) (Nat.le_refl _) (.cells #[.slice A0_0 l0_0.length c0_0, .int .i64 a0_1, .int .i64 a0_2, .int .i64 a0_3, .int .i64 a0_4, .int .i64 a0_5, .slice A0_6 l0_6.length c0_6] 65)
  have BK1 := Aside0.mk (heap_alloc_new w (.cells #[.slice A0_0 l0_0.length c0_0, .int .i64 a0_1, .int .i64 a0_2, .int .i64 a0_3, .int .i64 a0_4, .int .i64 a0_5, .slice A0_6 l0_6.length c0_6] 65))
  replace HB := Aside0.mk (below_step HB.out HA3)
  have Z4 := Aside0.mk (show w.heap.size < (w.alloc (.cells #[.slice A0_0 l0_0.length c0_0, .int .i64 a0_1, .int .i64 a0_2, .int .i64 a0_3, .int .i64 a0_4, .int .i64 a0_5, .slice A0_6 l0_6.length c0_6] 65)).heap.size by simp)
  clear HA3
  have HA5 := Below.alloc (Below.refl (w.alloc (.cells #[.slice A0_0 l0_0.length c0_0, .int .i64 a0_1, .int .i64 a0_2, .int .i64 a0_3, .int .i64 a0_4, .int .i64 a0_5, .slice A0_6 l0_6.length c0_6] 65)).heap.size (w.alloc (.cells #[.slice A0_0 l0_0.length c0_0, .int .i64 a0_1, .int .i64 a0_2, .int .i64 a0_3, .int .i64 a0_4, .int .i64 a0_5, .slice A0_6 l0_6.length c0_6] 65))) (Nat.le_refl _) (.cells #[.int .i64 a1_0, .int .i64 a1_1] 67)
  replace BK1 := Aside0.mk (blk_below BK1.out HA5)
  have BK2 := Aside0.mk (heap_alloc_new (w.alloc (.cells #[.slice A0_0 l0_0.length c0_0, .int .i64 a0_1, .int .i64 a0_2, .int .i64 a0_3, .int .i64 a0_4, .int .i64 a0_5, .slice A0_6 l0_6.length c0_6] 65)) (.cells #[.int .i64 a1_0, .int .i64 a1_1] 67))
  replace HB := Aside0.mk (below_step HB.out HA5)
  have Z6 := Aside0.mk (show (w.alloc (.cells #[.slice A0_0 l0_0.length c0_0, .int .i64 a0_1, .int .i64 a0_2, .int .i64 a0_3, .int .i64 a0_4, .int .i64 a0_5, .slice A0_6 l0_6.length c0_6] 65)).heap.size < ((w.alloc (.cells #[.slice A0_0 l0_0.length c0_0, .int .i64 a0_1, .int .i64 a0_2, .int .i64 a0_3, .int .i64 a0_4, .int .i64 a0_5, .slice A0_6 l0_6.length c0_6] 65)).alloc (.cells #[.int .i64 a1_0, .int .i64 a1_1] 67)).heap.size by simp)
  clear HA5
  refine (laws_szArena.calls k A0_0 c0_0 l0_0 a0_1 a0_2 a0_3 a0_4 a0_5 A0_6 c0_6 l0_6 1048576 r8 ((w.alloc (.cells #[.slice A0_0 l0_0.length c0_0, .int .i64 a0_1, .int .i64 a0_2, .int .i64 a0_3, .int .i64 a0_4, .int .i64 a0_5, .slice A0_6 l0_6.length c0_6] 65)).alloc (.cells #[.int .i64 a1_0, .int .i64 a1_1] 67)) (Kd.C_below HR0_0.out HB.out) HC0_0.out (Kd.C_below HR0_6.out HB.out) HC0_6.out e9.out).mono ?_
  rintro e w7 ⟨rfl, hb⟩
  replace BK1 := Aside0.mk (blk_below BK1.out hb)
  replace BK2 := Aside0.mk (blk_below BK2.out hb)
  have Z10 := Aside0.mk (below_size hb)
  replace HB := Aside0.mk (below_step HB.out hb)
  clear hb 
  go_wp2
  go_ret
  exact ⟨rfl, HB.out⟩

def FnExactGiveZero.Pure : Prop := ∀ (l0_0 : List (List Int)) (a0_1 : Int) (a0_2 : Int) (a0_3 : Int) (a0_4 : Int) (a0_5 : Int) (l0_6 : List Int) (a1_0 : Int) (a1_1 : Int), (l0_0.length ≤ maxLen ∧ ∀ z ∈ l0_0, (z.length ≤ maxLen ∧ ∀ z2 ∈ z, (Lit.int .u8 z2).wf = true)) → (Lit.int .i64 a0_1).wf = true → (Lit.int .i64 a0_2).wf = true → (Lit.int .i64 a0_3).wf = true → (Lit.int .i64 a0_4).wf = true → (Lit.int .i64 a0_5).wf = true → (l0_6.length ≤ maxLen ∧ ∀ z ∈ l0_6, (Lit.int .i64 z).wf = true) → (Lit.int .i64 a1_0).wf = true → (Lit.int .i64 a1_1).wf = true → (∃ (k : Nat) (r8 : Int) (r14 : List (List Int)) (r15 : Int) (r16 : Int) (r17 : Int) (r18 : Int) (r19 : Int) (r20 : List Int) (r24 : Int) (r25 : Int) (r27 : List (List Int)) (r28 : Int) (r29 : Int) (r30 : Int) (r31 : Int) (r32 : Int) (r33 : List Int) (r34 : Int) (r35 : Int) (r36 : Int) (r37 : Int) (r38 : Bool) (m149 : Int) (x150 : List (List Int)) (x151 : List Int) (m199 : Int) (x200 : List (List Int)) (x201 : List Int), laws_szArena.f k l0_0 a0_1 a0_2 a0_3 a0_4 a0_5 l0_6 1048576 = some r8 ∧ ¬ r8 < 0 ∧ laws_toArena.f k l0_0 a0_1 a0_2 a0_3 a0_4 a0_5 l0_6 = some (r14, r15, r16, r17, r18, r19, r20) ∧ laws_toAsked.f a1_0 a1_1 = some (r24, r25) ∧ spec_GiveZero.f k r14 r15 r16 r17 r18 r19 r20 r24 r25 = some (r27, r28, r29, r30, r31, r32, r33, r34, r35, r36, r37, r38) ∧ impl_GiveZero.f k r14 r15 r16 r17 r18 r19 r20 r24 r25 = some (r27, r28, r29, r30, r31, r32, r33, r34, r35, r36, r37, r38) ∧ laws_eqArena.f k r27 r28 r29 r30 r31 r32 r33 r27 r28 r29 r30 r31 r32 r33 = some true ∧ laws_eqWindow.f r34 r35 r36 r37 r34 r35 r36 r37 = some true ∧ laws_eqArena.f k r14 r15 r16 r17 r18 r19 r20 r14 r15 r16 r17 r18 r19 r20 = some true ∧ laws_markArena.f k r14 r20 1 = some (m149, x150, x151) ∧ ¬ m149 < 0 ∧ laws_markArena.f k r27 r33 1 = some (m199, x200, x201) ∧ laws_heldArena.f k x200 r28 r29 r30 r31 r32 x201 1 = some m199 ∧ ¬ m199 < 0) ∨
  (∃ (k : Nat) (r8 : Int), laws_szArena.f k l0_0 a0_1 a0_2 a0_3 a0_4 a0_5 l0_6 1048576 = some r8 ∧ r8 < 0)

theorem FnExactGiveZero.call (P_ : FnExactGiveZero.Pure) (A0_0 : Option Addr) (c0_0 : Nat) (l0_0 : List (List Int)) (a0_1 : Int) (a0_2 : Int) (a0_3 : Int) (a0_4 : Int) (a0_5 : Int) (A0_6 : Option Addr) (c0_6 : Nat) (l0_6 : List Int) (a1_0 : Int) (a1_1 : Int) (w : World) (HR0_0 : Kd.C (Kd.slice 5 (Kd.int .u8)) w A0_0 l0_0.length l0_0) (HC0_0 : l0_0.length ≤ c0_0) (HR0_6 : Kd.C (Kd.int .i64) w A0_6 l0_6.length l0_6) (HC0_6 : l0_6.length ≤ c0_6) (W_0 : (l0_0.length ≤ maxLen ∧ ∀ z ∈ l0_0, (z.length ≤ maxLen ∧ ∀ z2 ∈ z, (Lit.int .u8 z2).wf = true))) (W_1 : (Lit.int .i64 a0_1).wf = true) (W_2 : (Lit.int .i64 a0_2).wf = true) (W_3 : (Lit.int .i64 a0_3).wf = true) (W_4 : (Lit.int .i64 a0_4).wf = true) (W_5 : (Lit.int .i64 a0_5).wf = true) (W_6 : (l0_6.length ≤ maxLen ∧ ∀ z ∈ l0_6, (Lit.int .i64 z).wf = true)) (W_7 : (Lit.int .i64 a1_0).wf = true) (W_8 : (Lit.int .i64 a1_1).wf = true) :
    Calls Try.prog 7 #[.agg #[.slice A0_0 l0_0.length c0_0, .int .i64 a0_1, .int .i64 a0_2, .int .i64 a0_3, .int .i64 a0_4, .int .i64 a0_5, .slice A0_6 l0_6.length c0_6], .agg #[.int .i64 a1_0, .int .i64 a1_1]] w fun e w' => e = .returned (.bool true) ∧ Below w.heap.size w w' := by
  rcases P_ l0_0 a0_1 a0_2 a0_3 a0_4 a0_5 l0_6 a1_0 a1_1 W_0 W_1 W_2 W_3 W_4 W_5 W_6 W_7 W_8 with h_ | h_
  · obtain ⟨k, r8, r14, r15, r16, r17, r18, r19, r20, r24, r25, r27, r28, r29, r30, r31, r32, r33, r34, r35, r36, r37, r38, m149, x150, x151, m199, x200, x201, e9, n_r8, e21, e26, e39, e78, e112, e125, e138, e152, n_m149, e202, e217, n_m199⟩ := h_
    exact FnExactGiveZero.walk k A0_0 c0_0 l0_0 a0_1 a0_2 a0_3 a0_4 a0_5 A0_6 c0_6 l0_6 a1_0 a1_1 r8 r14 r15 r16 r17 r18 r19 r20 r24 r25 r27 r28 r29 r30 r31 r32 r33 r34 r35 r36 r37 r38 m149 x150 x151 m199 x200 x201 w HR0_0 HC0_0 HR0_6 HC0_6 e9 n_r8 e21 e26 e39 e78 e112 e125 e138 e152 n_m149 e202 e217 n_m199
  · obtain ⟨k, r8, e9, n_r8⟩ := h_
    exact FnExactGiveZero.walk_big0 k A0_0 c0_0 l0_0 a0_1 a0_2 a0_3 a0_4 a0_5 A0_6 c0_6 l0_6 a1_0 a1_1 r8 w HR0_0 HC0_0 HR0_6 HC0_6 e9 n_r8
end Go.Proofs.Ytmkcbbbknbahgaa.P
namespace Go.Proofs.Ytmkcbbbknbahgaa.P
open Go.RowKit Go.Proofs.YtmkcbbbknbahgaaW.PrintWords Go.Proofs.YtmkcbbbknbahgaaW.PrintLast Go.Proofs.YtmkcbbbknbahgaaW.PrintMore
set_option linter.unusedVariables false

def Small {α : Type} (l : List α) : Prop := l.length ≤ 1048576

theorem Small.le {α : Type} {l : List α} (h : Small l) : l.length ≤ 1048576 := h

theorem szByteS_is {l : List Int} {a : Int} (h0 : 0 ≤ a) (h1 : a ≤ 1048576) (hl : l.length ≤ maxLen) : ∃ r, laws_szByteS.f l a = some r ∧ (r < 0 ∨ (0 ≤ r ∧ r ≤ a ∧ Small l)) := by
  rw [maxLen_] at hl
  unfold laws_szByteS.f Small
  rw [w64 (by omega) (by omega)]
  by_cases h : a - (l.length : Int) < 0
  · rw [if_pos h]; exact ⟨_, rfl, .inl (by omega)⟩
  · rw [if_neg h]; exact ⟨_, rfl, .inr (by omega)⟩

theorem szByteSS_is {l : List (List Int)} {a : Int} (h0 : 0 ≤ a) (h1 : a ≤ 1048576) (hl : l.length ≤ maxLen ∧ ∀ z ∈ l, z.length ≤ maxLen) : ∃ r, Ter (fun k => laws_szByteSS.f k l a) r ∧ (r < 0 ∨ (0 ≤ r ∧ r ≤ a ∧ Small l ∧ ∀ z ∈ l, Small z)) := by
  have hl1 := hl.1
  rw [maxLen_] at hl1
  unfold laws_szByteSS.f
  rw [w64 (by omega) (by omega)]
  by_cases h : a - (l.length : Int) < 0
  · simp only [if_pos h]; exact ⟨_, Ter.ret _, .inl (by omega)⟩
  · simp only [if_neg h]
    have hs : Small l := by unfold Small; omega
    have key := down_ (Q := fun i => ∀ b, 0 ≤ b → b ≤ a → ∃ r, Ter (fun k => laws_szByteSS.l0 k l b (i : Int)) r ∧ (r < 0 ∨ (0 ≤ r ∧ r ≤ b ∧ ∀ j, i ≤ j → ∀ hj : j < l.length, Small l[j]))) l.length
      (fun b hb0 hb1 => ⟨b, Ter.succ (by simp only [laws_szByteSS.l0]; exact Ter.ifn (by omega) (Ter.ret _)), .inr ⟨hb0, Int.le_refl _, fun j h1 h2 => by omega⟩⟩)
      (fun i hi ih b hb0 hb1 => by
        obtain ⟨r, hr, hr2⟩ := szByteS_is (l := l[i]) hb0 (by omega) (hl.2 _ (List.getElem_mem hi))
        rcases hr2 with hr2 | ⟨hr2, hr3, hr4⟩
        · refine ⟨-1, Ter.succ ?_, .inl (by omega)⟩
          simp only [laws_szByteSS.l0]
          refine Ter.ifp (by omega) (Ter.ifp (by omega) ?_)
          rw [show rd_L1 l (i : Int) = l[i] from getD_at hi, hr]
          exact Ter.ifp (c := r < 0) hr2 (Ter.ret _)
        · obtain ⟨q, hq, hq2⟩ := ih r hr2 (by omega)
          refine ⟨q, Ter.succ ?_, ?_⟩
          · simp only [laws_szByteSS.l0]
            refine Ter.ifp (by omega) (Ter.ifp (by omega) ?_)
            rw [show rd_L1 l (i : Int) = l[i] from getD_at hi, hr]
            refine Ter.ifn (c := r < 0) (by omega) ?_
            rw [w64s hi (by omega)]
            exact hq
          · rcases hq2 with h | ⟨h1, h2, h3⟩
            · exact .inl h
            · refine .inr ⟨h1, by omega, fun j hj hj2 => ?_⟩
              by_cases hij : j = i
              · subst hij; exact hr4
              · exact h3 j (by omega) hj2) 0 (by omega) (a - (l.length : Int)) (by omega) (by omega)
    obtain ⟨r, hr, hr2⟩ := key
    refine ⟨r, hr, ?_⟩
    rcases hr2 with h | ⟨h1, h2, h3⟩
    · exact .inl h
    · refine .inr ⟨h1, by omega, hs, fun z hz => ?_⟩
      obtain ⟨j, hj, rfl⟩ := List.getElem_of_mem hz
      exact h3 j (by omega) hj

theorem szMemory_is {l : List (List Int)} {a : Int} (h0 : 0 ≤ a) (h1 : a ≤ 1048576) (hl : l.length ≤ maxLen ∧ ∀ z ∈ l, z.length ≤ maxLen) : ∃ r, Ter (fun k => laws_szMemory.f k l a) r ∧ (r < 0 ∨ (0 ≤ r ∧ r ≤ a ∧ Small l ∧ ∀ z ∈ l, Small z)) := by
  obtain ⟨r, hr, h⟩ := szByteSS_is h0 h1 hl
  unfold laws_szMemory.f
  rcases h with h | ⟨h2, h3, h4⟩
  · exact ⟨-1, hr.bind (Ter.ifp h (Ter.ret _)), .inl (by omega)⟩
  · exact ⟨r, hr.bind (Ter.ifn (by omega) (Ter.ret _)), .inr ⟨h2, h3, h4⟩⟩

theorem toByteS_is {l : List Int} (h : Small l) : Ter (fun k => laws_toByteS.f k l) l := by
  have hl := h.le
  unfold laws_toByteS.f
  refine Ter.ifp (by omega) (Ter.ifp (by omega) ?_)
  have key := down_ (Q := fun i => Ter (fun k => laws_toByteS.l0 k l (l.take i ++ List.replicate (l.length - i) 0) (i : Int)) l) l.length
    (Ter.succ (by simp only [laws_toByteS.l0]; exact Ter.ifn (by omega) ((Ter.ret _).eq fill_all)))
    (fun i hi ih => by
      refine Ter.succ ?_
      simp only [laws_toByteS.l0]
      refine Ter.ifp (by omega) (Ter.ifp (by omega) (Ter.ifp (by rw [fill_len (by omega)]; omega) ?_))
      rw [rd_at hi, w64s hi (by omega), fill_set hi]
      exact ih) 0 (by omega)
  simpa using key

theorem toByteSS_is {l : List (List Int)} (h : Small l) (hz : ∀ z ∈ l, Small z) : Ter (fun k => laws_toByteSS.f k l) l := by
  have hl := h.le
  unfold laws_toByteSS.f
  refine Ter.ifp (by omega) (Ter.ifp (by omega) ?_)
  have key := down_ (Q := fun i => Ter (fun k => laws_toByteSS.l0 k l (l.take i ++ List.replicate (l.length - i) []) (i : Int)) l) l.length
    (Ter.succ (by simp only [laws_toByteSS.l0]; exact Ter.ifn (by omega) ((Ter.ret _).eq fill_all)))
    (fun i hi ih => by
      refine Ter.succ ?_
      simp only [laws_toByteSS.l0]
      refine Ter.ifp (by omega) (Ter.ifp (by omega) ?_)
      rw [show rd_L1 l (i : Int) = l[i] from getD_at hi]
      refine (toByteS_is (hz _ (List.getElem_mem hi))).bind (Ter.ifp (by rw [fill_len (by omega)]; omega) ?_)
      rw [w64s hi (by omega), fill_set hi]
      exact ih) 0 (by omega)
  simpa using key

theorem toMemory_is {l : List (List Int)} (h : Small l) (hz : ∀ z ∈ l, Small z) : Ter (fun k => laws_toMemory.f k l) l := (toByteSS_is h hz).bind (Ter.ret _)

theorem eqByteS_is {l : List Int} (h : l.length ≤ maxLen) : Ter (fun k => laws_eqByteS.f k l l) true := by
  rw [maxLen_] at h
  unfold laws_eqByteS.f
  refine Ter.ifp rfl ?_
  exact down_ (Q := fun i => Ter (fun k => laws_eqByteS.l0 k l l (i : Int)) true) l.length
    (Ter.succ (by simp only [laws_eqByteS.l0]; exact Ter.ifn (by omega) (Ter.ret _)))
    (fun i hi ih => by
      refine Ter.succ ?_
      simp only [laws_eqByteS.l0, if_true]
      refine Ter.ifp (by omega) (Ter.ifp (by omega) (Ter.ifp (by omega) ?_))
      rw [w64s hi (by omega)]
      exact ih) 0 (by omega)

theorem eqByteSS_is {l : List (List Int)} (h : l.length ≤ maxLen ∧ ∀ z ∈ l, z.length ≤ maxLen) : Ter (fun k => laws_eqByteSS.f k l l) true := by
  have h1 := h.1
  rw [maxLen_] at h1
  unfold laws_eqByteSS.f
  refine Ter.ifp rfl ?_
  exact down_ (Q := fun i => Ter (fun k => laws_eqByteSS.l0 k l l (i : Int)) true) l.length
    (Ter.succ (by simp only [laws_eqByteSS.l0]; exact Ter.ifn (by omega) (Ter.ret _)))
    (fun i hi ih => by
      refine Ter.succ ?_
      simp only [laws_eqByteSS.l0]
      refine Ter.ifp (by omega) (Ter.ifp (by omega) (Ter.ifp (by omega) ?_))
      rw [show rd_L1 l (i : Int) = l[i] from getD_at hi]
      refine (eqByteS_is (h.2 _ (List.getElem_mem hi))).bind (Ter.ifp rfl ?_)
      rw [w64s hi (by omega)]
      exact ih) 0 (by omega)

theorem eqMemory_is {l : List (List Int)} (h : l.length ≤ maxLen ∧ ∀ z ∈ l, z.length ≤ maxLen) : Ter (fun k => laws_eqMemory.f k l l) true := (eqByteSS_is h).bind (Ter.ifp rfl (Ter.ret _))

/-- Marks: the numbers written and the number behind them; what is held is told again. -/
theorem markByteS_is {l : List Int} {a : Int} (h0 : 0 ≤ a) (h1 : a + l.length ≤ 9223372036854775807) : ∃ y, y.length = l.length ∧ Ter (fun k => laws_markByteS.f k l a) (a + l.length, y) ∧ Ter (fun k => laws_heldByteS.f k y a) (a + l.length) := by
  unfold laws_markByteS.f laws_heldByteS.f
  have key := down_ (Q := fun i => ∀ y : List Int, y.length = l.length → ∃ y', y'.length = l.length ∧ (∀ j, j < i → y'[j]? = y[j]?) ∧ Ter (fun k => laws_markByteS.l0 k y (a + i) (i : Int)) (a + l.length, y') ∧ Ter (fun k => laws_heldByteS.l0 k y' (a + i) (i : Int)) (a + l.length)) l.length
    (fun y hy => ⟨y, hy, fun _ _ => rfl, Ter.succ (by simp only [laws_markByteS.l0]; exact Ter.ifn (by omega) (Ter.ret _)), Ter.succ (by simp only [laws_heldByteS.l0]; exact Ter.ifn (by omega) (Ter.ret _))⟩)
    (fun i hi ih y hy => by
      obtain ⟨y', hy', hj, hm, hh⟩ := ih (y.set i ((a + i) % 256)) (by simpa using hy)
      have e : (a + (i : Int)) + 1 = a + ((i + 1 : Nat) : Int) := by omega
      refine ⟨y', hy', fun j hji => ?_, Ter.succ ?_, Ter.succ ?_⟩
      · rw [hj j (by omega), List.getElem?_set_ne (by omega)]
      · simp only [laws_markByteS.l0]
        refine Ter.ifp (by omega) (Ter.ifp (by omega) ?_)
        rw [w64s hi (by omega), w64 (by omega) (by omega), e, Int.toNat_natCast]
        exact hm
      · simp only [laws_heldByteS.l0]
        refine Ter.ifp (by omega) (Ter.ifp (by omega) (Ter.ifp ?_ ?_))
        · have := hj i (by omega)
          rw [List.getElem?_set_self (by omega), List.getElem?_eq_getElem (by omega)] at this
          rw [rd_at (by omega)]
          exact Option.some.inj this
        · rw [w64s hi (by omega), w64 (by omega) (by omega), e]
          exact hh) 0 (by omega) l rfl
  obtain ⟨y, hy, _, hm, hh⟩ := key
  exact ⟨y, hy, by simpa using hm, by simpa using hh⟩

def total (l : List (List Int)) : Nat := (l.map List.length).sum

theorem total_le : ∀ {l : List (List Int)}, (∀ z ∈ l, Small z) → total l ≤ l.length * 1048576
  | [], _ => by simp [total]
  | z :: l, h => by
    have := total_le (fun z hz => h z (List.mem_cons_of_mem _ hz))
    have := (h z (List.mem_cons_self ..)).le
    simp only [total, List.map_cons, List.sum_cons, List.length_cons] at *
    omega

theorem markByteSS_is {l : List (List Int)} {a : Int} (h0 : 0 ≤ a) (hl : l.length ≤ 4294967296) (h1 : a + total l ≤ 9223372036854775807) : ∃ y, y.length = l.length ∧ Ter (fun k => laws_markByteSS.f k l a) (a + total l, y) ∧ Ter (fun k => laws_heldByteSS.f k y a) (a + total l) := by
  unfold laws_markByteSS.f laws_heldByteSS.f
  have key := down_ (Q := fun i => ∀ (b : Int) (y : List (List Int)), 0 ≤ b → b + total (l.drop i) ≤ 9223372036854775807 → y.length = l.length → (∀ j, i ≤ j → y[j]? = l[j]?) → ∃ y', y'.length = l.length ∧ (∀ j, j < i → y'[j]? = y[j]?) ∧ Ter (fun k => laws_markByteSS.l0 k y b (i : Int)) (b + total (l.drop i), y') ∧ Ter (fun k => laws_heldByteSS.l0 k y' b (i : Int)) (b + total (l.drop i))) l.length
    (fun b y hb hb2 hy _ => ⟨y, hy, fun _ _ => rfl, Ter.succ (by simp only [laws_markByteSS.l0]; exact Ter.ifn (by omega) ((Ter.ret _).eq (by simp [total]))), Ter.succ (by simp only [laws_heldByteSS.l0]; exact Ter.ifn (by omega) ((Ter.ret _).eq (by simp [total])))⟩)
    (fun i hi ih b y hb hb2 hy hsame => by
      have hd : l.drop i = l[i] :: l.drop (i + 1) := List.drop_eq_getElem_cons hi
      have ht : total (l.drop i) = l[i].length + total (l.drop (i + 1)) := by rw [hd]; rfl
      rw [ht] at hb2 ⊢
      obtain ⟨z, hz, hzm, hzh⟩ := markByteS_is (l := l[i]) hb (by omega)
      obtain ⟨y', hy', hj, hm, hh⟩ := ih (b + l[i].length) (y.set i z) (by omega) (by omega) (by simpa using hy) (fun j hj => by rw [List.getElem?_set_ne (by omega)]; exact hsame j (by omega))
      have e : b + (l[i].length : Int) + (total (l.drop (i + 1)) : Int) = b + ((l[i].length + total (l.drop (i + 1)) : Nat) : Int) := by omega
      rw [e] at hm hh
      have hyi : y[i]'(by omega) = l[i] := by
        have := hsame i (Nat.le_refl _)
        rw [List.getElem?_eq_getElem (by omega), List.getElem?_eq_getElem hi] at this
        exact Option.some.inj this
      refine ⟨y', hy', fun j hji => ?_, Ter.succ ?_, Ter.succ ?_⟩
      · rw [hj j (by omega), List.getElem?_set_ne (by omega)]
      · simp only [laws_markByteSS.l0]
        refine Ter.ifp (by omega) (Ter.ifp (by omega) ?_)
        rw [show rd_L1 y (i : Int) = l[i] from (getD_at (by omega)).trans hyi]
        refine hzm.bind ?_
        rw [w64s hi (by omega), Int.toNat_natCast]
        exact hm
      · simp only [laws_heldByteSS.l0]
        refine Ter.ifp (by omega) (Ter.ifp (by omega) ?_)
        have := hj i (by omega)
        rw [List.getElem?_set_self (by omega), List.getElem?_eq_getElem (by omega)] at this
        rw [show rd_L1 y' (i : Int) = z from (getD_at (by omega)).trans (Option.some.inj this)]
        refine hzh.bind (Ter.ifn (by omega) ?_)
        rw [w64s hi (by omega)]
        exact hh) 0 (by omega) a l h0 (by simpa using h1) rfl (fun _ _ => rfl)
  obtain ⟨y, hy, _, hm, hh⟩ := key
  exact ⟨y, hy, by simpa using hm, by simpa using hh⟩

theorem heldMemory_is {y : List (List Int)} {a r : Int} (h0 : 0 ≤ r) (h : Ter (fun k => laws_heldByteSS.f k y a) r) : Ter (fun k => laws_heldMemory.f k y a) r := h.bind (Ter.ifn (by omega) (Ter.ret _))
end Go.Proofs.Ytmkcbbbknbahgaa.P
namespace Go.Proofs.Ytmkcbbbknbahgaa.P
open Go.RowKit Go.Proofs.YtmkcbbbknbahgaaW.PrintWords Go.Proofs.YtmkcbbbknbahgaaW.PrintLast Go.Proofs.YtmkcbbbknbahgaaW.PrintMore
set_option linter.unusedVariables false

def wf64 (n : Int) : Prop := -9223372036854775808 ≤ n ∧ n ≤ 9223372036854775807

theorem wf64_of {n : Int} (h : (Lit.int .i64 n).wf = true) : wf64 n := by
  simp only [Lit.wf, Bool.and_eq_true, decide_eq_true_eq] at h
  exact h

def wfW (x : S32) : Prop := wf64 x.f0 ∧ wf64 x.f1 ∧ wf64 x.f2 ∧ wf64 x.f3

theorem eqWindow_is (a b c d : Int) : laws_eqWindow.f a b c d a b c d = some true := by simp [laws_eqWindow.f]
end Go.Proofs.Ytmkcbbbknbahgaa.P
namespace Go.Proofs.Ytmkcbbbknbahgaa.P
open Go.RowKit Go.Proofs.YtmkcbbbknbahgaaW.PrintWords Go.Proofs.YtmkcbbbknbahgaaW.PrintLast Go.Proofs.YtmkcbbbknbahgaaW.PrintMore
set_option linter.unusedVariables false

theorem szIntS_is {l : List Int} {a : Int} (h0 : 0 ≤ a) (h1 : a ≤ 1048576) (hl : l.length ≤ maxLen) : ∃ r, laws_szIntS.f l a = some r ∧ (r < 0 ∨ (0 ≤ r ∧ r ≤ a ∧ Small l)) := by
  rw [maxLen_] at hl
  unfold laws_szIntS.f Small
  rw [w64 (by omega) (by omega)]
  by_cases h : a - (l.length : Int) < 0
  · rw [if_pos h]; exact ⟨_, rfl, .inl (by omega)⟩
  · rw [if_neg h]; exact ⟨_, rfl, .inr (by omega)⟩

theorem toIntS_is {l : List Int} (h : Small l) : Ter (fun k => laws_toIntS.f k l) l := by
  have hl := h.le
  unfold laws_toIntS.f
  refine Ter.ifp (by omega) (Ter.ifp (by omega) ?_)
  have key := down_ (Q := fun i => Ter (fun k => laws_toIntS.l0 k l (l.take i ++ List.replicate (l.length - i) 0) (i : Int)) l) l.length
    (Ter.succ (by simp only [laws_toIntS.l0]; exact Ter.ifn (by omega) ((Ter.ret _).eq fill_all)))
    (fun i hi ih => by
      refine Ter.succ ?_
      simp only [laws_toIntS.l0]
      refine Ter.ifp (by omega) (Ter.ifp (by omega) (Ter.ifp (by rw [fill_len (by omega)]; omega) ?_))
      rw [rd_at hi, w64s hi (by omega), fill_set hi]
      exact ih) 0 (by omega)
  simpa using key

theorem eqIntS_is {l : List Int} (h : l.length ≤ maxLen) : Ter (fun k => laws_eqIntS.f k l l) true := by
  rw [maxLen_] at h
  unfold laws_eqIntS.f
  refine Ter.ifp rfl ?_
  exact down_ (Q := fun i => Ter (fun k => laws_eqIntS.l0 k l l (i : Int)) true) l.length
    (Ter.succ (by simp only [laws_eqIntS.l0]; exact Ter.ifn (by omega) (Ter.ret _)))
    (fun i hi ih => by
      refine Ter.succ ?_
      simp only [laws_eqIntS.l0, if_true]
      refine Ter.ifp (by omega) (Ter.ifp (by omega) (Ter.ifp (by omega) ?_))
      rw [w64s hi (by omega)]
      exact ih) 0 (by omega)

theorem markIntS_is {l : List Int} {a : Int} (h0 : 0 ≤ a) (h1 : a + l.length ≤ 9223372036854775807) : ∃ y, y.length = l.length ∧ Ter (fun k => laws_markIntS.f k l a) (a + l.length, y) ∧ Ter (fun k => laws_heldIntS.f k y a) (a + l.length) := by
  unfold laws_markIntS.f laws_heldIntS.f
  have key := down_ (Q := fun i => ∀ y : List Int, y.length = l.length → ∃ y', y'.length = l.length ∧ (∀ j, j < i → y'[j]? = y[j]?) ∧ Ter (fun k => laws_markIntS.l0 k y (a + i) (i : Int)) (a + l.length, y') ∧ Ter (fun k => laws_heldIntS.l0 k y' (a + i) (i : Int)) (a + l.length)) l.length
    (fun y hy => ⟨y, hy, fun _ _ => rfl, Ter.succ (by simp only [laws_markIntS.l0]; exact Ter.ifn (by omega) (Ter.ret _)), Ter.succ (by simp only [laws_heldIntS.l0]; exact Ter.ifn (by omega) (Ter.ret _))⟩)
    (fun i hi ih y hy => by
      obtain ⟨y', hy', hj, hm, hh⟩ := ih (y.set i (a + i)) (by simpa using hy)
      have e : (a + (i : Int)) + 1 = a + ((i + 1 : Nat) : Int) := by omega
      refine ⟨y', hy', fun j hji => ?_, Ter.succ ?_, Ter.succ ?_⟩
      · rw [hj j (by omega), List.getElem?_set_ne (by omega)]
      · simp only [laws_markIntS.l0]
        refine Ter.ifp (by omega) (Ter.ifp (by omega) ?_)
        rw [w64s hi (by omega), w64 (by omega) (by omega), e, Int.toNat_natCast]
        exact hm
      · simp only [laws_heldIntS.l0]
        refine Ter.ifp (by omega) (Ter.ifp (by omega) (Ter.ifp ?_ ?_))
        · have := hj i (by omega)
          rw [List.getElem?_set_self (by omega), List.getElem?_eq_getElem (by omega)] at this
          rw [rd_at (by omega)]
          exact Option.some.inj this
        · rw [w64s hi (by omega), w64 (by omega) (by omega), e]
          exact hh) 0 (by omega) l rfl
  obtain ⟨y, hy, _, hm, hh⟩ := key
  exact ⟨y, hy, by simpa using hm, by simpa using hh⟩

theorem szArena_is {m : List (List Int)} {a s n c u : Int} {l : List Int} (hl : m.length ≤ maxLen ∧ ∀ z ∈ m, z.length ≤ maxLen) (hw : l.length ≤ maxLen) {t : Int} (ht0 : 0 ≤ t) (ht : t ≤ 1048576) : ∃ r, Ter (fun k => laws_szArena.f k m a s n c u l t) r ∧ (r < 0 ∨ (0 ≤ r ∧ r ≤ t ∧ Small m ∧ (∀ z ∈ m, Small z) ∧ Small l)) := by
  unfold laws_szArena.f
  obtain ⟨r, hr, h⟩ := szMemory_is (a := t) (by omega) (by omega) hl
  rcases h with h | ⟨h1, h2, h3, h4⟩
  · exact ⟨-1, hr.bind (Ter.ifp h (Ter.ret _)), .inl (by omega)⟩
  · obtain ⟨q, hq, h⟩ := szIntS_is h1 (by omega) hw
    rcases h with h | ⟨h5, h6, h7⟩
    · exact ⟨-1, hr.bind (Ter.ifn (by omega) (Ter.bind (F := fun _ => laws_szIntS.f l r) (Ter.const hq) (Ter.ifp h (Ter.ret _)))), .inl (by omega)⟩
    · exact ⟨q, hr.bind (Ter.ifn (by omega) (Ter.bind (F := fun _ => laws_szIntS.f l r) (Ter.const hq) (Ter.ifn (by omega) (Ter.ret _)))), .inr ⟨by omega, by omega, h3, h4, h7⟩⟩

theorem toArena_is {m : List (List Int)} {a s n c u : Int} {l : List Int} (h : Small m) (hz : ∀ z ∈ m, Small z) (hl : Small l) : Ter (fun k => laws_toArena.f k m a s n c u l) (m, a, s, n, c, u, l) := by
  unfold laws_toArena.f
  exact (toMemory_is h hz).bind (Ter.bind (F := fun _ => laws_toWindow.f a s n c) (a := (a, s, n, c)) (Ter.ret _) ((toIntS_is hl).bind (Ter.ret _)))

theorem eqArena_is {m : List (List Int)} {a s n c u : Int} {l : List Int} (h : Small m) (hz : ∀ z ∈ m, Small z) (hl : Small l) : Ter (fun k => laws_eqArena.f k m a s n c u l m a s n c u l) true := by
  unfold laws_eqArena.f
  refine (eqMemory_is ⟨by have := h.le; rw [maxLen_]; omega, fun z hz1 => by have := (hz z hz1).le; rw [maxLen_]; omega⟩).bind (Ter.ifp rfl (Ter.bind (F := fun _ => laws_eqWindow.f a s n c a s n c) (Ter.const (eqWindow_is _ _ _ _)) (Ter.ifp rfl ?_)))
  simp only [if_true]
  exact (eqIntS_is (by have := hl.le; rw [maxLen_]; omega)).bind (Ter.ifp rfl (Ter.ret _))

theorem markArena_is {m : List (List Int)} {a s n c u : Int} {l : List Int} {b : Int} (h : Small m) (hz : ∀ z ∈ m, Small z) (hl : Small l) (hb : 0 ≤ b) (hb2 : b ≤ 4611686018427387904) : ∃ x y r, x.length = m.length ∧ y.length = l.length ∧ ¬ r < 0 ∧ r ≤ b + 1099513724928 ∧ Ter (fun k => laws_markArena.f k m l b) (r, x, y) ∧ Ter (fun k => laws_heldArena.f k x a s n c u y b) r := by
  have ht := total_le hz
  have h1 := h.le
  have h2 := hl.le
  obtain ⟨x, hx, hm1, hm2⟩ := markByteSS_is (l := m) (a := b) (by omega) (by omega) (by omega)
  obtain ⟨y, hy, hy1, hy2⟩ := markIntS_is (l := l) (a := b + total m) (by omega) (by omega)
  refine ⟨x, y, _, hx, hy, by omega, by omega, hm1.bind (hy1.bind (Ter.ret _)), ?_⟩
  unfold laws_heldArena.f
  exact (heldMemory_is (by omega) hm2).bind (Ter.ifn (by omega) (hy2.bind (Ter.ifn (by omega) (Ter.ret _))))
end Go.Proofs.Ytmkcbbbknbahgaa.P
