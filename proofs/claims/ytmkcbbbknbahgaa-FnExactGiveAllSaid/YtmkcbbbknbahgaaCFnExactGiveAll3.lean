/- Part 3 of the proof of FnExactGiveAll: contracts of functions that the law reaches. Conditions: none. -/
import Derived.Test.YtmkcbbbknbahgaaCFnExactGiveAll2
namespace Go.Proofs.Ytmkcbbbknbahgaa.P
open Go.RowKit Go.Proofs.YtmkcbbbknbahgaaW.PrintWords Go.Proofs.YtmkcbbbknbahgaaW.PrintLast Go.Proofs.YtmkcbbbknbahgaaW.PrintMore
attribute [local go_sem] max2_int min2_int max_two min_two max_three min_three max_four min_four   -- for this text's walks alone
set_option linter.unusedVariables false
set_option linter.unusedSimpArgs false

def spec_GiveAll.l0 : Nat → List (S74) → List (S32) → Int → List (List Int) → Int → Int → Int → Int → Int → List Int → Option ((List (List Int)) × Int × Int × Int × Int × Int × List Int × (List (S32)) × Bool)
 | 0, _, _, _, _, _, _, _, _, _, _ => none
 | k + 1, x1, x7, x9, x1041000, x1041001, x1041002, x1041003, x1041004, x1041005, x1041006 => if x9 < (x1.length : Int) then (if 0 ≤ x9 then ((spec_Give.f k x1041000 x1041001 x1041002 x1041003 x1041004 x1041005 x1041006 ((rd_T74 x1 x9).f0) ((rd_T74 x1 x9).f1)).bind fun bt1042 => (if bt1042.2.2.2.2.2.2.2.2.2.2.2 = true then (if x7.length < 4398046511104 then (spec_GiveAll.l0 k x1 (x7 ++ [(⟨bt1042.2.2.2.2.2.2.2.1, bt1042.2.2.2.2.2.2.2.2.1, bt1042.2.2.2.2.2.2.2.2.2.1, bt1042.2.2.2.2.2.2.2.2.2.2.1⟩ : S32)]) (wrap64 (x9 + 1)) bt1042.1 bt1042.2.1 bt1042.2.2.1 bt1042.2.2.2.1 bt1042.2.2.2.2.1 bt1042.2.2.2.2.2.1 bt1042.2.2.2.2.2.2.1) else (none)) else (some (([] : List (List Int)), 0, 0, 0, 0, 0, ([] : List Int), (([] : List (S32))), false)))) else (none)) else (some (x1041000, x1041001, x1041002, x1041003, x1041004, x1041005, x1041006, x7, true))

def spec_GiveAll.f (k : Nat) (l0_0 : List (List Int)) (a0_1 : Int) (a0_2 : Int) (a0_3 : Int) (a0_4 : Int) (a0_5 : Int) (l0_6 : List Int) (l1 : List (S74)) : Option ((List (List Int)) × Int × Int × Int × Int × Int × List Int × (List (S32)) × Bool) := (some (([] : List (S32)) : List (S32))).bind fun y1025 => ((spec_l8List.f k l0_0 a0_1 a0_2 a0_3 a0_4 a0_5 l0_6 l1).bind fun t1028 => (if t1028 = true then ((spec_l8Own.f k l0_0 a0_1 a0_2 a0_3 a0_4 a0_5 l0_6 a0_5).bind fun bt1029 => (spec_GiveAll.l0 k l1 y1025 0 bt1029.1 bt1029.2.1 bt1029.2.2.1 bt1029.2.2.2.1 bt1029.2.2.2.2.1 bt1029.2.2.2.2.2.1 bt1029.2.2.2.2.2.2)) else (some (([] : List (List Int)), 0, 0, 0, 0, 0, ([] : List Int), y1025, false))))

def spec_GiveAll.T8 : Bool × List (List Nat × List Nat) := (true, [([], []), ([], []), ([], []), ([1, 2], [1, 2]), ([3], [3]), ([0, 4], [0, 4]), ([5], [5]), ([6], [6]), ([6], [6]), ([6], [6]), ([], []), ([], []), ([10, 7, 5, 0, 1, 2, 3, 4, 5, 6, 7, 10, 11], [7, 10]), ([11, 8, 12, 0, 1, 2, 3, 4, 5, 6, 7, 8, 10, 11, 12], [8, 11]), ([9, 13, 0, 1, 2, 3, 4, 5, 6, 7, 8, 9, 10, 11, 12, 13], [9])])

def spec_GiveAll.B8 : List Nat := [0, 0, 0, 6, 14, 31, 63, 127, 127, 127, 0, 0, 3327, 7679, 16383]

theorem spec_GiveAll.tab8 : rtab .any (opsOf Try.f47 8) = spec_GiveAll.T8 := by kernel_rfl

theorem spec_GiveAll.bits8 : waitsOk spec_GiveAll.T8.2 spec_GiveAll.B8 = true := by kernel_rfl

set_option maxHeartbeats 8000000 in
set_option maxRecDepth 100000 in
theorem spec_GiveAll.calls (k : Nat) (A0_0 : Option Addr) (c0_0 : Nat) (l0_0 : List (List Int)) (a0_1 : Int) (a0_2 : Int) (a0_3 : Int) (a0_4 : Int) (a0_5 : Int) (A0_6 : Option Addr) (c0_6 : Nat) (l0_6 : List Int) (A1 : Option Addr) (c1 : Nat) (l1 : List (S74)) (r1 : List (List Int)) (r2 : Int) (r3 : Int) (r4 : Int) (r5 : Int) (r6 : Int) (r7 : List Int) (r8 : List (S32)) (r9 : Bool) (w : World) (hr0_0 : Kd.C (Kd.slice 5 (Kd.int .u8)) w A0_0 l0_0.length l0_0) (hc0_0 : l0_0.length ≤ c0_0) (hr0_6 : Kd.C (Kd.int .i64) w A0_6 l0_6.length l0_6) (hc0_6 : l0_6.length ≤ c0_6) (hr1 : Kd.C k74 w A1 l1.length l1) (hc1 : l1.length ≤ c1) (h : spec_GiveAll.f k l0_0 a0_1 a0_2 a0_3 a0_4 a0_5 l0_6 l1 = some (r1, r2, r3, r4, r5, r6, r7, r8, r9)) :
  Calls Try.prog 47 #[.agg #[.slice A0_0 l0_0.length c0_0, .int .i64 a0_1, .int .i64 a0_2, .int .i64 a0_3, .int .i64 a0_4, .int .i64 a0_5, .slice A0_6 l0_6.length c0_6], .slice A1 l1.length c1] w fun e w' => ∃ v0_ v6_ v7_ : Value, e = .returned (.tuple #[.agg #[v0_, .int .i64 r2, .int .i64 r3, .int .i64 r4, .int .i64 r5, .int .i64 r6, v6_], v7_, .bool r9]) ∧ Kd.S (Kd.slice 5 (Kd.int .u8)) 29 w' w.heap.size (fun _ => True) v0_ r1 ∧ Kd.R (Kd.int .i64) 3 w' w.heap.size (fun _ => True) v6_ r7 ∧ Kd.R k32 32 w' w.heap.size (fun _ => True) v7_ r8 ∧ Below w.heap.size w w' := by
 have hu70 := Try.underlying70
 have hu74 := Try.underlying74
 have hu32 := Try.underlying32
 have HR0_0 := Aside0.mk hr0_0
 have HC0_0 := Aside0.mk hc0_0
 clear hr0_0 hc0_0
 have HR0_6 := Aside0.mk hr0_6
 have HC0_6 := Aside0.mk hc0_6
 clear hr0_6 hc0_6
 have HR1 := Aside0.mk hr1
 have HC1 := Aside0.mk hc1
 clear hr1 hc1
 have HB := Aside0.mk (Below.refl w.heap.size w)
 have H : ((some (([] : List (S32)) : List (S32))).bind fun y1025 => ((spec_l8List.f k l0_0 a0_1 a0_2 a0_3 a0_4 a0_5 l0_6 l1).bind fun t1028 => (if t1028 = true then ((spec_l8Own.f k l0_0 a0_1 a0_2 a0_3 a0_4 a0_5 l0_6 a0_5).bind fun bt1029 => (spec_GiveAll.l0 k l1 y1025 0 bt1029.1 bt1029.2.1 bt1029.2.2.1 bt1029.2.2.2.1 bt1029.2.2.2.2.1 bt1029.2.2.2.2.2.1 bt1029.2.2.2.2.2.2)) else (some (([] : List (List Int)), 0, 0, 0, 0, 0, ([] : List Int), y1025, false))))) = some (r1, r2, r3, r4, r5, r6, r7, r8, r9) := h
 clear h
 obtain ⟨y1025, hy1025⟩ : ∃ y_ : List (S32), y_ = (([] : List (S32))) := ⟨_, rfl⟩
 replace H : ((spec_l8List.f k l0_0 a0_1 a0_2 a0_3 a0_4 a0_5 l0_6 l1).bind fun t1028 => (if t1028 = true then ((spec_l8Own.f k l0_0 a0_1 a0_2 a0_3 a0_4 a0_5 l0_6 a0_5).bind fun bt1029 => (spec_GiveAll.l0 k l1 y1025 0 bt1029.1 bt1029.2.1 bt1029.2.2.1 bt1029.2.2.2.1 bt1029.2.2.2.2.1 bt1029.2.2.2.2.2.1 bt1029.2.2.2.2.2.2)) else (some (([] : List (List Int)), 0, 0, 0, 0, 0, ([] : List Int), y1025, false)))) = some (r1, r2, r3, r4, r5, r6, r7, r8, r9) := by first | (rw [hy1025]; with_reducible exact H) | (have H2_ := (Option.bind_some _ _).symm.trans H; rw [hy1025]; with_reducible exact H2_) | (have H2_ := (Option.bind_some _ _).symm.trans H; with_reducible exact H2_) | with_reducible exact H | (rw [hy1025]; exact H) | exact H
 have Ny1025 := Aside0.mk hy1025
 clear hy1025
 replace H := Option.bind_eq_some_iff.mp H
 obtain ⟨t1028, A30, H⟩ := H
 replace H : (if t1028 = true then ((spec_l8Own.f k l0_0 a0_1 a0_2 a0_3 a0_4 a0_5 l0_6 a0_5).bind fun bt1029 => (spec_GiveAll.l0 k l1 y1025 0 bt1029.1 bt1029.2.1 bt1029.2.2.1 bt1029.2.2.2.1 bt1029.2.2.2.2.1 bt1029.2.2.2.2.2.1 bt1029.2.2.2.2.2.2)) else (some (([] : List (List Int)), 0, 0, 0, 0, 0, ([] : List Int), y1025, false))) = some (r1, r2, r3, r4, r5, r6, r7, r8, r9) := H
 have A3 := Aside0.mk A30
 clear A30
 by_cases c4 : t1028 = true
 ·subst c4
  rw [if_pos rfl] at H
  replace H := Option.bind_eq_some_iff.mp H
  obtain ⟨⟨t1029, t1032, t1033, t1034, t1035, t1036, t1037⟩, A50, H⟩ := H
  replace H : (spec_GiveAll.l0 k l1 y1025 0 t1029 t1032 t1033 t1034 t1035 t1036 t1037) = some (r1, r2, r3, r4, r5, r6, r7, r8, r9) := H
  have A5 := Aside0.mk A50
  clear A50
  have H' := Aside0.mk H
  clear H
  go_enter Try.func47, Try.ntmps47
  go_wp2_with (first | ((with_reducible refine gate_dst (N := 2) rfl ?_); refine box_event ?hg (N := 2) ?hd (cs := #[.slice A0_0 l0_0.length c0_0, .int .i64 a0_1, .int .i64 a0_2, .int .i64 a0_3, .int .i64 a0_4, .int .i64 a0_5, .slice A0_6 l0_6.length c0_6]) (t := 70) ?hr ?_; (case hd => rfl); (case hg => rfl); (case hr => exact gs_); intro gb1023 hg w6 hbox hb; have BK1023 := Aside0.mk (hbox); have GW1023 := gE_ HB hg; have GE1023 := gE_ HB hg; replace HB := Aside0.mk (below_step (by repeat (first | (with_reducible first | exact HB.out | apply ba_ | apply bn_ | apply bd_) | exact HB.out)) hb); clear hb hbox hg) | ((with_reducible refine gate_dst (N := 4) rfl ?_); refine box_event ?hg (N := 4) ?hd (cs := #[.slice none 0 0, .int .i64 0, .int .i64 0, .int .i64 0, .int .i64 0, .int .i64 0, .slice none 0 0]) (t := 70) ?hr ?_; (case hd => rfl); (case hg => rfl); (case hr => exact gs_); intro gb1024 hg w7 hbox hb; have BK1024 := Aside0.mk (hbox); have GW1024 := gE_ HB hg; have GE1024 := gE_ HB hg; replace HB := Aside0.mk (below_step (by repeat (first | (with_reducible first | exact HB.out | apply ba_ | apply bn_ | apply bd_ | refine bset_ ?_ (by assumption)) | exact HB.out)) hb); have NB1023_1024 := nB_ BK1023 hg; have NB1024_1023 := nA_ BK1023 hg; replace BK1023 := bB_ BK1023 hb; clear hb hbox hg) | ((with_reducible refine gate_dst (N := 13) rfl ?_); refine Kd.R_lit k32 _ 32 ?hg (N := 13) ?hd (xs := ([] : List (S32))) (inner := []) (ok := fun _ => True) (okp := fun _ => True) ?hr ?hp (fun _ hk => hk) trivial (Below.refl _ _) (Nat.le_refl _) (by simp) ?_; (case hd => rfl); (case hg => rfl); (case hr => exact gs_); (case hp => exact (Reps.none _ _)); intro v1026 w8 ho9 hb hg_ hnew_; clear hg_ hnew_; (first | rw [← Ny1025.out] at ho9 | (simp only [Int.reduceToNat] at ho9; rw [← Ny1025.out] at ho9)); have HO1027 := Aside0.mk (rL_ ho9 HB); replace BK1023 := bB_ BK1023 hb; replace BK1024 := bB_ BK1024 hb; replace HB := Aside0.mk (below_step (by repeat (first | (with_reducible first | exact HB.out | apply ba_ | apply bn_ | apply bd_ | refine bset_ ?_ (by assumption)) | exact HB.out)) hb); clear hb ho9; have hnb10 := NB1023_1024.out; have hnc10 := NB1024_1023.out; obtain ⟨hcz11_0, hcz11_1, hcz11_2, hcz11_3, hcz11_4, hcz11_5, hcz11_6, hfz11_0, hfz11_1, hfz11_2, hfz11_3, hfz11_4, hfz11_5, hfz11_6⟩ := zc7_ BK1023) | ((with_reducible refine gate_callee (f := 108) rfl ?_); refine goesL_ (some 16) rfl rfl Try.func108 (by kernel_rfl) rfl #[.agg #[.slice A0_0 l0_0.length c0_0, .int .i64 a0_1, .int .i64 a0_2, .int .i64 a0_3, .int .i64 a0_4, .int .i64 a0_5, .slice A0_6 l0_6.length c0_6], .slice A1 l1.length c1] rfl ar_ ?_; (with_reducible refine (spec_l8List.calls k _ _ l0_0 a0_1 a0_2 a0_3 a0_4 a0_5 _ _ l0_6 _ _ l1 true _ ?side1 ?side2 ?side3 ?side4 ?side5 ?side6 A3.out).mono ?_); (case side1 => exact cS_ (Kd.C_below HR0_0.out HB.out)); (case side2 => exact HC0_0.out); (case side3 => exact cS_ (Kd.C_below HR0_6.out HB.out)); (case side4 => exact HC0_6.out); (case side5 => exact cS_ (Kd.C_below HR1.out HB.out)); (case side6 => exact HC1.out); rintro e w12 ⟨rfl, hb⟩; refine ⟨_, rfl, ?_⟩; replace HO1027 := Aside0.mk (Kd.R_below (rK_ HO1027) hb); replace BK1023 := bB_ BK1023 hb; replace BK1024 := bB_ BK1024 hb; replace HB := Aside0.mk (below_step (by repeat (first | (with_reducible first | exact HB.out | apply ba_ | apply bn_ | apply bd_ | refine bset_ ?_ (by assumption)) | exact HB.out)) hb); (try clear hb); (try clear hb2); (try clear hk); (try clear hi); obtain ⟨hcz13_0, hcz13_1, hcz13_2, hcz13_3, hcz13_4, hcz13_5, hcz13_6, hfz13_0, hfz13_1, hfz13_2, hfz13_3, hfz13_4, hfz13_5, hfz13_6⟩ := zc7_ BK1023) | ((with_reducible refine gate_callee (f := 100) rfl ?_); refine goesL_ (some 23) rfl rfl Try.func100 (by kernel_rfl) rfl #[.agg #[.slice A0_0 l0_0.length c0_0, .int .i64 a0_1, .int .i64 a0_2, .int .i64 a0_3, .int .i64 a0_4, .int .i64 a0_5, .slice A0_6 l0_6.length c0_6], .int .i64 a0_5] rfl ar_ ?_; (with_reducible refine (spec_l8Own.calls k _ _ l0_0 a0_1 a0_2 a0_3 a0_4 a0_5 _ _ l0_6 a0_5 t1029 t1032 t1033 t1034 t1035 t1036 t1037 _ ?side1 ?side2 ?side3 ?side4 A5.out).mono ?_); (case side1 => exact cS_ (Kd.C_below HR0_0.out HB.out)); (case side2 => exact HC0_0.out); (case side3 => exact cS_ (Kd.C_below HR0_6.out HB.out)); (case side4 => exact HC0_6.out); rintro e w14 ⟨v1030, v1038, rfl, ho0, ho1, hb⟩; refine ⟨_, rfl, ?_⟩; replace HO1027 := Aside0.mk (Kd.R_below (rK_ HO1027) hb); have HO1031 := Aside0.mk (sL_ ho0 HB); have HO1039 := Aside0.mk (rL_ ho1 HB); replace BK1023 := bB_ BK1023 hb; replace BK1024 := bB_ BK1024 hb; replace HB := Aside0.mk (below_step (by repeat (first | (with_reducible first | exact HB.out | apply ba_ | apply bn_ | apply bd_ | refine bset_ ?_ (by assumption)) | exact HB.out)) hb); (try clear hb); (try clear hb2); (try clear hk); (try clear hi); (try clear ho0); (try clear ho1)) | ((with_reducible refine gate_dst (N := 8) rfl ?_); refine box_event ?hg (N := 8) ?hd (cs := #[.slice none 0 0, .int .i64 0, .int .i64 0, .int .i64 0, .int .i64 0, .int .i64 0, .slice none 0 0]) (t := 70) ?hr ?_; (case hd => rfl); (case hg => rfl); (case hr => exact gs_); intro gb1040 hg w15 hbox hb; replace HO1027 := Aside0.mk (Kd.R_below (rK_ HO1027) hb); replace HO1031 := Aside0.mk (Kd.S_below (sK_ HO1031) hb); replace HO1039 := Aside0.mk (Kd.R_below (rK_ HO1039) hb); have BK1040 := Aside0.mk (hbox); have GW1040 := gE_ HB hg; have GE1040 := gE_ HB hg; replace HB := Aside0.mk (below_step (by repeat (first | (with_reducible first | exact HB.out | apply ba_ | apply bn_ | apply bd_ | refine bset_ ?_ (by assumption)) | exact HB.out)) hb); have NB1023_1040 := nB_ BK1023 hg; have NB1040_1023 := nA_ BK1023 hg; replace BK1023 := bB_ BK1023 hb; have NB1024_1040 := nB_ BK1024 hg; have NB1040_1024 := nA_ BK1024 hg; replace BK1024 := bB_ BK1024 hb; clear hb hbox hg; obtain ⟨Ao16, co16, eo16⟩ := Kd.S_slice HO1031.out; subst eo16; have hnb17 := NB1040_1023.out; have hnc17 := NB1023_1040.out; have hnb18 := NB1040_1024.out; have hnc18 := NB1024_1040.out; obtain ⟨hcz19_0, hcz19_1, hcz19_2, hcz19_3, hcz19_4, hcz19_5, hcz19_6, hfz19_0, hfz19_1, hfz19_2, hfz19_3, hfz19_4, hfz19_5, hfz19_6⟩ := zc7_ BK1040; obtain ⟨Ao20, co20, eo20⟩ := Kd.R_slice HO1039.out; subst eo20))
  go_loopg [7, 9] k (fun kq v7 v9 w' => ∃ (x7_1 : List (S32)) (x9_1 : Int) (x1025001_1 : Int) (x1025002_1 : Int) (x1025003_1 : Int) (x1025004_1 : Int) (x1025005_1 : Int) (x1041000_1 : List (List Int)) (x1041001_1 : Int) (x1041002_1 : Int) (x1041003_1 : Int) (x1041004_1 : Int) (x1041005_1 : Int) (x1041006_1 : List Int) (u1041000 : Value) (u1041006 : Value), v9 = .int .i64 x9_1 ∧ Aside0 (spec_GiveAll.l0 kq l1 x7_1 x9_1 x1041000_1 x1041001_1 x1041002_1 x1041003_1 x1041004_1 x1041005_1 x1041006_1 = some (r1, r2, r3, r4, r5, r6, r7, r8, r9)) ∧ Aside0 (kq ≤ k) ∧ Aside0 (Kd.R k32 32 w' w.heap.size (fun _ => True) v7 x7_1) ∧ Aside0 (Kd.S (Kd.slice 5 (Kd.int .u8)) 29 w' w.heap.size (fun _ => True) u1041000 x1041000_1) ∧ Aside0 (Kd.R (Kd.int .i64) 3 w' w.heap.size (fun _ => True) u1041006 x1041006_1) ∧ Aside0 (w'.heap[gb1023]? = some (.cells #[(.slice A0_0 l0_0.length c0_0), .int .i64 a0_1, .int .i64 a0_2, .int .i64 a0_3, .int .i64 a0_4, .int .i64 a0_5, (.slice A0_6 l0_6.length c0_6)] 70 (0, 0))) ∧ Aside0 (w'.heap[gb1024]? = some (.cells #[(.slice none 0 0), .int .i64 x1025001_1, .int .i64 x1025002_1, .int .i64 x1025003_1, .int .i64 x1025004_1, .int .i64 x1025005_1, (.slice none 0 0)] 70 (0, 0))) ∧ Aside0 (w'.heap[gb1040]? = some (.cells #[u1041000, .int .i64 x1041001_1, .int .i64 x1041002_1, .int .i64 x1041003_1, .int .i64 x1041004_1, .int .i64 x1041005_1, u1041006] 70 (0, 0))) ∧ Aside0 (Below w.heap.size w w'))
  case atStart => exact ⟨(y1025), (0), (0), (0), (0), (0), (0), (t1029), (t1032), (t1033), (t1034), (t1035), (t1036), (t1037), (.slice Ao16 t1029.length co16), (.slice Ao20 t1037.length co20), (by first | rfl | (simp; done) | (simp [*]; done)), H', ⟨Nat.le_refl _⟩, ⟨by (with_reducible repeat first | apply kr1_ | apply kr2_ | apply kr3_); exact Kd.R_mono (rf7_ gb1040 (Kd.R_types HO1027.out BK1040.out (by decide)) (fun _ hk => hk.2)) (fun _ hk => trivial)⟩, ⟨by (with_reducible repeat first | apply ks1_ | apply ks2_ | apply ks3_); exact Kd.S_mono (sf7_ gb1040 (Kd.S_types HO1031.out BK1040.out (by decide)) (fun _ hk => hk.2)) (fun _ hk => trivial)⟩, ⟨by (with_reducible repeat first | apply kr1_ | apply kr2_ | apply kr3_); exact Kd.R_mono (rf7_ gb1040 (Kd.R_types HO1039.out BK1040.out (by decide)) (fun _ hk => hk.2)) (fun _ hk => trivial)⟩, ⟨by exact fB_ BK1023⟩, ⟨by exact fB_ BK1024⟩, ⟨by exact fB_ BK1040⟩, ⟨by repeat (first | (with_reducible first | exact HB.out | apply below_alloc | apply pw_below_drewN | apply below_drew1 | refine below_set ?_ GE1023.out | refine below_set ?_ GE1024.out | refine below_set ?_ GE1040.out) | exact HB.out)⟩⟩
  case round =>
   clear H'
   try clear c1
   try clear p2
   try clear c4
   try clear c10
   try clear c17
   try clear c18
   try clear hcz11_0
   try clear hcz11_1
   try clear hcz11_2
   try clear hcz11_3
   try clear hcz11_4
   try clear hcz11_5
   try clear hcz11_6
   try clear hcz13_0
   try clear hcz13_1
   try clear hcz13_2
   try clear hcz13_3
   try clear hcz13_4
   try clear hcz13_5
   try clear hcz13_6
   try clear hcz19_0
   try clear hcz19_1
   try clear hcz19_2
   try clear hcz19_3
   try clear hcz19_4
   try clear hcz19_5
   try clear hcz19_6
   try clear hfz11_0
   try clear hfz11_1
   try clear hfz11_2
   try clear hfz11_3
   try clear hfz11_4
   try clear hfz11_5
   try clear hfz11_6
   try clear hfz13_0
   try clear hfz13_1
   try clear hfz13_2
   try clear hfz13_3
   try clear hfz13_4
   try clear hfz13_5
   try clear hfz13_6
   try clear hfz19_0
   try clear hfz19_1
   try clear hfz19_2
   try clear hfz19_3
   try clear hfz19_4
   try clear hfz19_5
   try clear hfz19_6
   obtain ⟨x7_1, x9_1, x1025001_1, x1025002_1, x1025003_1, x1025004_1, x1025005_1, x1041000_1, x1041001_1, x1041002_1, x1041003_1, x1041004_1, x1041005_1, x1041006_1, u1041000, u1041006, rfl, HA, HK1, HO_7, HO_1041000, HO_1041006, BK1023, BK1024, BK1040, HB⟩ := hrel
   cases gk with
   | zero => exact absurd HA.out (by simp [spec_GiveAll.l0])
   | succ k1 =>
    have H := HA.out
    clear HA
    simp only [spec_GiveAll.l0] at H
    by_cases c21 : x9_1 < (l1.length : Int)
    ·rw [if_pos c21] at H
     have c21b0 : decide (x9_1 < (l1.length : Int)) = true := decide_eq_true c21
     clear c21
     by_cases c22 : 0 ≤ x9_1
     ·rw [if_pos c22] at H
      have c22b0 : decide (0 ≤ x9_1) = true := decide_eq_true c22
      clear c22
      replace H := Option.bind_eq_some_iff.mp H
      obtain ⟨⟨t1042, t1045, t1046, t1047, t1048, t1049, t1050, t1053, t1054, t1055, t1056, t1057⟩, A230, H⟩ := H
      replace H : (if t1057 = true then (if x7_1.length < 4398046511104 then (spec_GiveAll.l0 k1 l1 (x7_1 ++ [(⟨t1053, t1054, t1055, t1056⟩ : S32)]) (wrap64 (x9_1 + 1)) t1042 t1045 t1046 t1047 t1048 t1049 t1050) else (none)) else (some (([] : List (List Int)), 0, 0, 0, 0, 0, ([] : List Int), (([] : List (S32))), false))) = some (r1, r2, r3, r4, r5, r6, r7, r8, r9) := H
      have A23 := Aside0.mk A230
      clear A230
      by_cases c24 : t1057 = true
      ·subst c24
       have H1 : (if x7_1.length < 4398046511104 then (spec_GiveAll.l0 k1 l1 (x7_1 ++ [(⟨t1053, t1054, t1055, t1056⟩ : S32)]) (wrap64 (x9_1 + 1)) t1042 t1045 t1046 t1047 t1048 t1049 t1050) else (none)) = some (r1, r2, r3, r4, r5, r6, r7, r8, r9) := by rw [if_pos rfl] at H; exact H
       clear H
       have H := H1
       clear H1
       by_cases c25 : x7_1.length < 4398046511104
       ·rw [if_pos c25] at H
        have LMc25 := Aside0.mk c25
        clear c25
        obtain ⟨y1060, hy1060⟩ : ∃ y_ : List (S32), y_ = (x7_1 ++ [(⟨t1053, t1054, t1055, t1056⟩ : S32)]) := ⟨_, rfl⟩
        replace H : (spec_GiveAll.l0 k1 l1 y1060 (wrap64 (x9_1 + 1)) t1042 t1045 t1046 t1047 t1048 t1049 t1050) = some (r1, r2, r3, r4, r5, r6, r7, r8, r9) := by first | (rw [hy1060]; with_reducible exact H) | (have H2_ := (Option.bind_some _ _).symm.trans H; rw [hy1060]; with_reducible exact H2_) | (have H2_ := (Option.bind_some _ _).symm.trans H; with_reducible exact H2_) | with_reducible exact H | (rw [hy1060]; exact H) | exact H
        have Ny1060 := Aside0.mk hy1060
        clear hy1060
        have H' := Aside0.mk H
        clear H
        obtain ⟨Ao26, co26, eo26⟩ := Kd.S_slice HO_1041000.out
        subst eo26
        obtain ⟨Ao27, co27, eo27⟩ := Kd.R_slice HO_1041006.out
        subst eo27
        try go_wp2
        replace HO_7 := Aside0.mk (Kd.R_drew HO_7.out)
        replace HO_1041000 := Aside0.mk (Kd.S_drew HO_1041000.out)
        replace HO_1041006 := Aside0.mk (Kd.R_drew HO_1041006.out)
        replace BK1023 := Aside0.mk (blk_drew BK1023.out)
        replace BK1024 := Aside0.mk (blk_drew BK1024.out)
        replace BK1040 := Aside0.mk (blk_drew BK1040.out)
        replace HB := Aside0.mk (below_drew1 HB.out)
        have p1041 : 0 ≤ (x9_1 : Int) := of_decide_eq_true as_
        have q1041 : x9_1 < (l1.length : Int) := of_decide_eq_true as_
        obtain ⟨ad1041, e1041, hx1041_0, hx1041_1⟩ := at_T74 HR1.out x9_1 p1041 q1041
        have hw1041_1 := hx1041_1
        have hw1041_0 := hx1041_0
        cases e1041
        replace hx1041_0 := (HB.out.cell (World.block_lt_of_cell? w _ hx1041_0)).trans hx1041_0
        replace hx1041_1 := (HB.out.cell (World.block_lt_of_cell? w _ hx1041_1)).trans hx1041_1
        replace p1041 := eq_true p1041
        replace q1041 := eq_true q1041
        refine start_ (n := 15) (S := fun w' => w'.cell? ⟨gb1040, 0, none⟩ = some (.slice Ao26 x1041000_1.length co26) ∧ w'.cell? ⟨gb1040, 1, none⟩ = some (.int .i64 x1041001_1) ∧ w'.cell? ⟨gb1040, 2, none⟩ = some (.int .i64 x1041002_1) ∧ w'.cell? ⟨gb1040, 3, none⟩ = some (.int .i64 x1041003_1) ∧ w'.cell? ⟨gb1040, 4, none⟩ = some (.int .i64 x1041004_1) ∧ w'.cell? ⟨gb1040, 5, none⟩ = some (.int .i64 x1041005_1) ∧ w'.cell? ⟨gb1040, 6, none⟩ = some (.slice Ao27 x1041006_1.length co27) ∧ w'.cell? (ad1041.add ((x9_1).toNat * 2)) = some (.int .i64 ((rd_T74 l1 x9_1).f0)) ∧ w'.cell? ⟨(ad1041.add ((x9_1).toNat * 2)).block, (ad1041.add ((x9_1).toNat * 2)).off + 1, none⟩ = some (.int .i64 ((rd_T74 l1 x9_1).f1))) (ds := []) #[false, false, false, false, false, false, false, false, false, false, false, false, false, false, false] (by kernel_rfl) rfl rfl ⟨(blk_cell BK1040.out 0).trans rfl, (blk_cell BK1040.out 1).trans rfl, (blk_cell BK1040.out 2).trans rfl, (blk_cell BK1040.out 3).trans rfl, (blk_cell BK1040.out 4).trans rfl, (blk_cell BK1040.out 5).trans rfl, (blk_cell BK1040.out 6).trans rfl, ((HB.out.cell (World.block_lt_of_cell? w _ hw1041_0)).trans hw1041_0), ((HB.out.cell (World.block_lt_of_cell? w _ hw1041_1)).trans hw1041_1)⟩ (fun hHeld => ?_); refine with_tabW spec_GiveAll.tab8 spec_GiveAll.bits8 (fun HT_ HW_ => ?_)
        generalize wr.drew = w28 at HO_7 HO_1041000 HO_1041006 BK1023 BK1024 BK1040 HB hx1041_0 hx1041_1 hHeld ⊢
        refine pure_ (i := 1) (N := some 32) (v := ?_) (a' := ?_) #[false, true, false, false, false, false, false, false, false, false, false, false, false, false, false] rfl rfl (any_of HT_.out (by kernel_rfl)) (fun _ _ _ h => h) (Or.inl ⟨by rfl, ?_⟩) ?_ ?_
        rotate_left
        ·intro w'
         go_simp
         with_reducible rfl
        rotate_left
        ·simp only [Act.put, List.setIfInBounds_toArray, List.set_cons_zero, List.set_cons_succ, i64_w, i32_w]
         rfl
        refine pure_ (i := 2) (N := some 33) (v := ?_) (a' := ?_) #[false, true, true, false, false, false, false, false, false, false, false, false, false, false, false] rfl rfl (any_of HT_.out (by kernel_rfl)) (fun _ _ _ h => h) (Or.inl ⟨by rfl, ?_⟩) ?_ ?_
        rotate_left
        ·intro w'
         go_simp
         with_reducible rfl
        rotate_left
        ·simp only [Act.put, List.setIfInBounds_toArray, List.set_cons_zero, List.set_cons_succ, i64_w, i32_w]
         rfl
        refine pure_ (i := 3) (N := some 34) (v := ?_) (a' := ?_) #[false, true, true, true, false, false, false, false, false, false, false, false, false, false, false] rfl rfl (any_of HT_.out (by kernel_rfl)) (fun _ _ _ h => h) (Or.inl ⟨by rfl, ?_⟩) ?_ ?_
        rotate_left
        ·intro w'
         go_simp
         with_reducible rfl
        rotate_left
        ·simp only [Act.put, List.setIfInBounds_toArray, List.set_cons_zero, List.set_cons_succ, i64_w, i32_w]
         rfl
        refine take_ (i := 0) (N := some 31) (v := ?_) (a' := ?_) #[true, true, true, true, false, false, false, false, false, false, false, false, false, false, false] rfl rfl (take_ofW HT_.out HW_.out (by kernel_rfl)) (fun _ _ _ h => h) (Or.inl ⟨by rfl, ?_⟩) hHeld ?_ ?_
        rotate_left
        ·rintro w' ⟨s0, s1, s2, s3, s4, s5, s6, s7, s8⟩
         go_simp
         with_reducible rfl
        rotate_left
        ·simp only [Act.put, List.setIfInBounds_toArray, List.set_cons_zero, List.set_cons_succ, i64_w, i32_w]
         rfl
        refine take_ (i := 4) (N := some 35) (v := ?_) (a' := ?_) #[true, true, true, true, true, false, false, false, false, false, false, false, false, false, false] rfl rfl (take_ofW HT_.out HW_.out (by kernel_rfl)) (fun _ _ _ h => h) (Or.inl ⟨by rfl, ?_⟩) hHeld ?_ ?_
        rotate_left
        ·rintro w' ⟨s0, s1, s2, s3, s4, s5, s6, s7, s8⟩
         go_simp
         with_reducible rfl
        rotate_left
        ·simp only [Act.put, List.setIfInBounds_toArray, List.set_cons_zero, List.set_cons_succ, i64_w, i32_w]
         rfl
        refine join_ (σ := Value × Value × Nat × Nat) 3 #[true, true, true, true, true, true, true, true, true, true, true, true, false, false, false] (fun s_ => [(36, .tuple #[.agg #[s_.1, .int .i64 t1045, .int .i64 t1046, .int .i64 t1047, .int .i64 t1048, .int .i64 t1049, s_.2.1], .agg #[.int .i64 t1053, .int .i64 t1054, .int .i64 t1055, .int .i64 t1056], .bool true]), (10, .pointer (some ⟨s_.2.2.1, 0, none⟩)), (11, .pointer (some ⟨s_.2.2.2, 0, none⟩)), (30, .tuple #[.agg #[s_.1, .int .i64 t1045, .int .i64 t1046, .int .i64 t1047, .int .i64 t1048, .int .i64 t1049, s_.2.1], .agg #[.int .i64 t1053, .int .i64 t1054, .int .i64 t1055, .int .i64 t1056], .bool true]), (37, .agg #[s_.1, .int .i64 t1045, .int .i64 t1046, .int .i64 t1047, .int .i64 t1048, .int .i64 t1049, s_.2.1]), (38, .agg #[.int .i64 t1053, .int .i64 t1054, .int .i64 t1055, .int .i64 t1056]), (39, .bool true)]) (fun s_ w' => (w'.cell? ⟨gb1040, 0, none⟩ = some (.slice Ao26 x1041000_1.length co26) ∧ w'.cell? ⟨gb1040, 1, none⟩ = some (.int .i64 x1041001_1) ∧ w'.cell? ⟨gb1040, 2, none⟩ = some (.int .i64 x1041002_1) ∧ w'.cell? ⟨gb1040, 3, none⟩ = some (.int .i64 x1041003_1) ∧ w'.cell? ⟨gb1040, 4, none⟩ = some (.int .i64 x1041004_1) ∧ w'.cell? ⟨gb1040, 5, none⟩ = some (.int .i64 x1041005_1) ∧ w'.cell? ⟨gb1040, 6, none⟩ = some (.slice Ao27 x1041006_1.length co27) ∧ w'.cell? (ad1041.add ((x9_1).toNat * 2)) = some (.int .i64 ((rd_T74 l1 x9_1).f0)) ∧ w'.cell? ⟨(ad1041.add ((x9_1).toNat * 2)).block, (ad1041.add ((x9_1).toNat * 2)).off + 1, none⟩ = some (.int .i64 ((rd_T74 l1 x9_1).f1))) ∧ (Kd.S (Kd.slice 5 (Kd.int .u8)) 29 w' w.heap.size (fun k_ => some k_ ≠ (.slice Ao26 x1041000_1.length co26 : Value).ownBlock) s_.1 t1042) ∧ (Kd.R (Kd.int .i64) 3 w' w.heap.size (fun k_ => some k_ ≠ (.slice Ao27 x1041006_1.length co27 : Value).ownBlock) s_.2.1 t1050) ∧ (Kd.S (Kd.slice 5 (Kd.int .u8)) 29 w' w.heap.size (fun k_ => some k_ ≠ (s_.1 : Value).ownBlock) (.slice Ao26 x1041000_1.length co26) x1041000_1) ∧ (Kd.R (Kd.int .i64) 3 w' w.heap.size (fun k_ => some k_ ≠ (s_.2.1 : Value).ownBlock) (.slice Ao27 x1041006_1.length co27) x1041006_1) ∧ (Kd.R k32 32 w' w.heap.size (fun k_ => k_ ≠ s_.2.2.2) u7 x7_1) ∧ (w'.heap[gb1023]? = some (.cells #[.slice A0_0 l0_0.length c0_0, .int .i64 a0_1, .int .i64 a0_2, .int .i64 a0_3, .int .i64 a0_4, .int .i64 a0_5, .slice A0_6 l0_6.length c0_6] 70 (0, 0))) ∧ (w'.heap[gb1024]? = some (.cells #[.slice none 0 0, .int .i64 x1025001_1, .int .i64 x1025002_1, .int .i64 x1025003_1, .int .i64 x1025004_1, .int .i64 x1025005_1, .slice none 0 0] 70 (0, 0))) ∧ (w'.heap[gb1040]? = some (.cells #[.slice Ao26 x1041000_1.length co26, .int .i64 x1041001_1, .int .i64 x1041002_1, .int .i64 x1041003_1, .int .i64 x1041004_1, .int .i64 x1041005_1, .slice Ao27 x1041006_1.length co27] 70 (0, 0))) ∧ (w'.heap[s_.2.2.1]? = some (.cells #[.slice none 0 0, .int .i64 0, .int .i64 0, .int .i64 0, .int .i64 0, .int .i64 0, .slice none 0 0] 70 (0, 0))) ∧ (w'.heap[s_.2.2.2]? = some (.cells #[.int .i64 0, .int .i64 0, .int .i64 0, .int .i64 0] 32 (0, 0))) ∧ (w.heap.size ≤ s_.2.2.1) ∧ (w.heap.size ≤ s_.2.2.1) ∧ (gb1023 ≠ s_.2.2.1) ∧ (s_.2.2.1 ≠ gb1023) ∧ (gb1024 ≠ s_.2.2.1) ∧ (s_.2.2.1 ≠ gb1024) ∧ (gb1040 ≠ s_.2.2.1) ∧ (s_.2.2.1 ≠ gb1040) ∧ (s_.2.2.2 ≠ s_.2.2.1) ∧ (s_.2.2.1 ≠ s_.2.2.2) ∧ (w.heap.size ≤ s_.2.2.2) ∧ (w.heap.size ≤ s_.2.2.2) ∧ (gb1023 ≠ s_.2.2.2) ∧ (s_.2.2.2 ≠ gb1023) ∧ (gb1024 ≠ s_.2.2.2) ∧ (s_.2.2.2 ≠ gb1024) ∧ (gb1040 ≠ s_.2.2.2) ∧ (s_.2.2.2 ≠ gb1040) ∧ (Below w.heap.size w w')) ?_ ?_
        rotate_left
        ·intro hJ5_10_11
         refine join_ (σ := Value × Value × Nat) 4 #[true, true, true, true, true, true, true, true, true, true, true, false, false, false, false] (fun s_ => [(36, .tuple #[.agg #[s_.1, .int .i64 t1045, .int .i64 t1046, .int .i64 t1047, .int .i64 t1048, .int .i64 t1049, s_.2.1], .agg #[.int .i64 t1053, .int .i64 t1054, .int .i64 t1055, .int .i64 t1056], .bool true]), (10, .pointer (some ⟨s_.2.2, 0, none⟩)), (30, .tuple #[.agg #[s_.1, .int .i64 t1045, .int .i64 t1046, .int .i64 t1047, .int .i64 t1048, .int .i64 t1049, s_.2.1], .agg #[.int .i64 t1053, .int .i64 t1054, .int .i64 t1055, .int .i64 t1056], .bool true]), (37, .agg #[s_.1, .int .i64 t1045, .int .i64 t1046, .int .i64 t1047, .int .i64 t1048, .int .i64 t1049, s_.2.1]), (38, .agg #[.int .i64 t1053, .int .i64 t1054, .int .i64 t1055, .int .i64 t1056]), (39, .bool true)]) (fun s_ w' => (w'.cell? ⟨gb1040, 0, none⟩ = some (.slice Ao26 x1041000_1.length co26) ∧ w'.cell? ⟨gb1040, 1, none⟩ = some (.int .i64 x1041001_1) ∧ w'.cell? ⟨gb1040, 2, none⟩ = some (.int .i64 x1041002_1) ∧ w'.cell? ⟨gb1040, 3, none⟩ = some (.int .i64 x1041003_1) ∧ w'.cell? ⟨gb1040, 4, none⟩ = some (.int .i64 x1041004_1) ∧ w'.cell? ⟨gb1040, 5, none⟩ = some (.int .i64 x1041005_1) ∧ w'.cell? ⟨gb1040, 6, none⟩ = some (.slice Ao27 x1041006_1.length co27) ∧ w'.cell? (ad1041.add ((x9_1).toNat * 2)) = some (.int .i64 ((rd_T74 l1 x9_1).f0)) ∧ w'.cell? ⟨(ad1041.add ((x9_1).toNat * 2)).block, (ad1041.add ((x9_1).toNat * 2)).off + 1, none⟩ = some (.int .i64 ((rd_T74 l1 x9_1).f1))) ∧ (Kd.S (Kd.slice 5 (Kd.int .u8)) 29 w' w.heap.size (fun k_ => some k_ ≠ (.slice Ao26 x1041000_1.length co26 : Value).ownBlock) s_.1 t1042) ∧ (Kd.R (Kd.int .i64) 3 w' w.heap.size (fun k_ => some k_ ≠ (.slice Ao27 x1041006_1.length co27 : Value).ownBlock) s_.2.1 t1050) ∧ (Kd.S (Kd.slice 5 (Kd.int .u8)) 29 w' w.heap.size (fun k_ => some k_ ≠ (s_.1 : Value).ownBlock) (.slice Ao26 x1041000_1.length co26) x1041000_1) ∧ (Kd.R (Kd.int .i64) 3 w' w.heap.size (fun k_ => some k_ ≠ (s_.2.1 : Value).ownBlock) (.slice Ao27 x1041006_1.length co27) x1041006_1) ∧ (Kd.R k32 32 w' w.heap.size (fun _ => True) u7 x7_1) ∧ (w'.heap[gb1023]? = some (.cells #[.slice A0_0 l0_0.length c0_0, .int .i64 a0_1, .int .i64 a0_2, .int .i64 a0_3, .int .i64 a0_4, .int .i64 a0_5, .slice A0_6 l0_6.length c0_6] 70 (0, 0))) ∧ (w'.heap[gb1024]? = some (.cells #[.slice none 0 0, .int .i64 x1025001_1, .int .i64 x1025002_1, .int .i64 x1025003_1, .int .i64 x1025004_1, .int .i64 x1025005_1, .slice none 0 0] 70 (0, 0))) ∧ (w'.heap[gb1040]? = some (.cells #[.slice Ao26 x1041000_1.length co26, .int .i64 x1041001_1, .int .i64 x1041002_1, .int .i64 x1041003_1, .int .i64 x1041004_1, .int .i64 x1041005_1, .slice Ao27 x1041006_1.length co27] 70 (0, 0))) ∧ (w'.heap[s_.2.2]? = some (.cells #[.slice none 0 0, .int .i64 0, .int .i64 0, .int .i64 0, .int .i64 0, .int .i64 0, .slice none 0 0] 70 (0, 0))) ∧ (w.heap.size ≤ s_.2.2) ∧ (w.heap.size ≤ s_.2.2) ∧ (gb1023 ≠ s_.2.2) ∧ (s_.2.2 ≠ gb1023) ∧ (gb1024 ≠ s_.2.2) ∧ (s_.2.2 ≠ gb1024) ∧ (gb1040 ≠ s_.2.2) ∧ (s_.2.2 ≠ gb1040) ∧ (Below w.heap.size w w')) ?_ ?_
         rotate_left
         ·intro hJ5_10
          refine join_ (σ := Value × Value × Nat) 4 #[true, true, true, true, true, true, true, true, true, true, false, true, false, false, false] (fun s_ => [(36, .tuple #[.agg #[s_.1, .int .i64 t1045, .int .i64 t1046, .int .i64 t1047, .int .i64 t1048, .int .i64 t1049, s_.2.1], .agg #[.int .i64 t1053, .int .i64 t1054, .int .i64 t1055, .int .i64 t1056], .bool true]), (11, .pointer (some ⟨s_.2.2, 0, none⟩)), (30, .tuple #[.agg #[s_.1, .int .i64 t1045, .int .i64 t1046, .int .i64 t1047, .int .i64 t1048, .int .i64 t1049, s_.2.1], .agg #[.int .i64 t1053, .int .i64 t1054, .int .i64 t1055, .int .i64 t1056], .bool true]), (37, .agg #[s_.1, .int .i64 t1045, .int .i64 t1046, .int .i64 t1047, .int .i64 t1048, .int .i64 t1049, s_.2.1]), (38, .agg #[.int .i64 t1053, .int .i64 t1054, .int .i64 t1055, .int .i64 t1056]), (39, .bool true)]) (fun s_ w' => (w'.cell? ⟨gb1040, 0, none⟩ = some (.slice Ao26 x1041000_1.length co26) ∧ w'.cell? ⟨gb1040, 1, none⟩ = some (.int .i64 x1041001_1) ∧ w'.cell? ⟨gb1040, 2, none⟩ = some (.int .i64 x1041002_1) ∧ w'.cell? ⟨gb1040, 3, none⟩ = some (.int .i64 x1041003_1) ∧ w'.cell? ⟨gb1040, 4, none⟩ = some (.int .i64 x1041004_1) ∧ w'.cell? ⟨gb1040, 5, none⟩ = some (.int .i64 x1041005_1) ∧ w'.cell? ⟨gb1040, 6, none⟩ = some (.slice Ao27 x1041006_1.length co27) ∧ w'.cell? (ad1041.add ((x9_1).toNat * 2)) = some (.int .i64 ((rd_T74 l1 x9_1).f0)) ∧ w'.cell? ⟨(ad1041.add ((x9_1).toNat * 2)).block, (ad1041.add ((x9_1).toNat * 2)).off + 1, none⟩ = some (.int .i64 ((rd_T74 l1 x9_1).f1))) ∧ (Kd.S (Kd.slice 5 (Kd.int .u8)) 29 w' w.heap.size (fun k_ => some k_ ≠ (.slice Ao26 x1041000_1.length co26 : Value).ownBlock) s_.1 t1042) ∧ (Kd.R (Kd.int .i64) 3 w' w.heap.size (fun k_ => some k_ ≠ (.slice Ao27 x1041006_1.length co27 : Value).ownBlock) s_.2.1 t1050) ∧ (Kd.S (Kd.slice 5 (Kd.int .u8)) 29 w' w.heap.size (fun k_ => some k_ ≠ (s_.1 : Value).ownBlock) (.slice Ao26 x1041000_1.length co26) x1041000_1) ∧ (Kd.R (Kd.int .i64) 3 w' w.heap.size (fun k_ => some k_ ≠ (s_.2.1 : Value).ownBlock) (.slice Ao27 x1041006_1.length co27) x1041006_1) ∧ (Kd.R k32 32 w' w.heap.size (fun k_ => k_ ≠ s_.2.2) u7 x7_1) ∧ (w'.heap[gb1023]? = some (.cells #[.slice A0_0 l0_0.length c0_0, .int .i64 a0_1, .int .i64 a0_2, .int .i64 a0_3, .int .i64 a0_4, .int .i64 a0_5, .slice A0_6 l0_6.length c0_6] 70 (0, 0))) ∧ (w'.heap[gb1024]? = some (.cells #[.slice none 0 0, .int .i64 x1025001_1, .int .i64 x1025002_1, .int .i64 x1025003_1, .int .i64 x1025004_1, .int .i64 x1025005_1, .slice none 0 0] 70 (0, 0))) ∧ (w'.heap[gb1040]? = some (.cells #[.slice Ao26 x1041000_1.length co26, .int .i64 x1041001_1, .int .i64 x1041002_1, .int .i64 x1041003_1, .int .i64 x1041004_1, .int .i64 x1041005_1, .slice Ao27 x1041006_1.length co27] 70 (0, 0))) ∧ (w'.heap[s_.2.2]? = some (.cells #[.int .i64 0, .int .i64 0, .int .i64 0, .int .i64 0] 32 (0, 0))) ∧ (w.heap.size ≤ s_.2.2) ∧ (w.heap.size ≤ s_.2.2) ∧ (gb1023 ≠ s_.2.2) ∧ (s_.2.2 ≠ gb1023) ∧ (gb1024 ≠ s_.2.2) ∧ (s_.2.2 ≠ gb1024) ∧ (gb1040 ≠ s_.2.2) ∧ (s_.2.2 ≠ gb1040) ∧ (Below w.heap.size w w')) ?_ ?_
          rotate_left
          ·intro hJ5_11
           refine join_ (σ := Nat × Nat) 8 #[true, true, true, true, true, false, false, false, false, false, true, true, false, false, false] (fun s_ => [(10, .pointer (some ⟨s_.1, 0, none⟩)), (11, .pointer (some ⟨s_.2, 0, none⟩))]) (fun s_ w' => (w'.cell? ⟨gb1040, 0, none⟩ = some (.slice Ao26 x1041000_1.length co26) ∧ w'.cell? ⟨gb1040, 1, none⟩ = some (.int .i64 x1041001_1) ∧ w'.cell? ⟨gb1040, 2, none⟩ = some (.int .i64 x1041002_1) ∧ w'.cell? ⟨gb1040, 3, none⟩ = some (.int .i64 x1041003_1) ∧ w'.cell? ⟨gb1040, 4, none⟩ = some (.int .i64 x1041004_1) ∧ w'.cell? ⟨gb1040, 5, none⟩ = some (.int .i64 x1041005_1) ∧ w'.cell? ⟨gb1040, 6, none⟩ = some (.slice Ao27 x1041006_1.length co27) ∧ w'.cell? (ad1041.add ((x9_1).toNat * 2)) = some (.int .i64 ((rd_T74 l1 x9_1).f0)) ∧ w'.cell? ⟨(ad1041.add ((x9_1).toNat * 2)).block, (ad1041.add ((x9_1).toNat * 2)).off + 1, none⟩ = some (.int .i64 ((rd_T74 l1 x9_1).f1))) ∧ (Kd.S (Kd.slice 5 (Kd.int .u8)) 29 w' w.heap.size (fun _ => True) (.slice Ao26 x1041000_1.length co26) x1041000_1) ∧ (Kd.R (Kd.int .i64) 3 w' w.heap.size (fun _ => True) (.slice Ao27 x1041006_1.length co27) x1041006_1) ∧ (Kd.R k32 32 w' w.heap.size (fun k_ => k_ ≠ s_.2) u7 x7_1) ∧ (w'.heap[gb1023]? = some (.cells #[.slice A0_0 l0_0.length c0_0, .int .i64 a0_1, .int .i64 a0_2, .int .i64 a0_3, .int .i64 a0_4, .int .i64 a0_5, .slice A0_6 l0_6.length c0_6] 70 (0, 0))) ∧ (w'.heap[gb1024]? = some (.cells #[.slice none 0 0, .int .i64 x1025001_1, .int .i64 x1025002_1, .int .i64 x1025003_1, .int .i64 x1025004_1, .int .i64 x1025005_1, .slice none 0 0] 70 (0, 0))) ∧ (w'.heap[gb1040]? = some (.cells #[.slice Ao26 x1041000_1.length co26, .int .i64 x1041001_1, .int .i64 x1041002_1, .int .i64 x1041003_1, .int .i64 x1041004_1, .int .i64 x1041005_1, .slice Ao27 x1041006_1.length co27] 70 (0, 0))) ∧ (w'.heap[s_.1]? = some (.cells #[.slice none 0 0, .int .i64 0, .int .i64 0, .int .i64 0, .int .i64 0, .int .i64 0, .slice none 0 0] 70 (0, 0))) ∧ (w'.heap[s_.2]? = some (.cells #[.int .i64 0, .int .i64 0, .int .i64 0, .int .i64 0] 32 (0, 0))) ∧ (w.heap.size ≤ s_.1) ∧ (w.heap.size ≤ s_.1) ∧ (gb1023 ≠ s_.1) ∧ (s_.1 ≠ gb1023) ∧ (gb1024 ≠ s_.1) ∧ (s_.1 ≠ gb1024) ∧ (gb1040 ≠ s_.1) ∧ (s_.1 ≠ gb1040) ∧ (s_.2 ≠ s_.1) ∧ (s_.1 ≠ s_.2) ∧ (w.heap.size ≤ s_.2) ∧ (w.heap.size ≤ s_.2) ∧ (gb1023 ≠ s_.2) ∧ (s_.2 ≠ gb1023) ∧ (gb1024 ≠ s_.2) ∧ (s_.2 ≠ gb1024) ∧ (gb1040 ≠ s_.2) ∧ (s_.2 ≠ gb1040) ∧ (Below w.heap.size w w')) ?_ ?_
           rotate_left
           ·intro hJ10_11
            refine join_ (σ := Value × Value) 5 #[true, true, true, true, true, true, true, true, true, true, false, false, false, false, false] (fun s_ => [(36, .tuple #[.agg #[s_.1, .int .i64 t1045, .int .i64 t1046, .int .i64 t1047, .int .i64 t1048, .int .i64 t1049, s_.2], .agg #[.int .i64 t1053, .int .i64 t1054, .int .i64 t1055, .int .i64 t1056], .bool true]), (30, .tuple #[.agg #[s_.1, .int .i64 t1045, .int .i64 t1046, .int .i64 t1047, .int .i64 t1048, .int .i64 t1049, s_.2], .agg #[.int .i64 t1053, .int .i64 t1054, .int .i64 t1055, .int .i64 t1056], .bool true]), (37, .agg #[s_.1, .int .i64 t1045, .int .i64 t1046, .int .i64 t1047, .int .i64 t1048, .int .i64 t1049, s_.2]), (38, .agg #[.int .i64 t1053, .int .i64 t1054, .int .i64 t1055, .int .i64 t1056]), (39, .bool true)]) (fun s_ w' => (w'.cell? ⟨gb1040, 0, none⟩ = some (.slice Ao26 x1041000_1.length co26) ∧ w'.cell? ⟨gb1040, 1, none⟩ = some (.int .i64 x1041001_1) ∧ w'.cell? ⟨gb1040, 2, none⟩ = some (.int .i64 x1041002_1) ∧ w'.cell? ⟨gb1040, 3, none⟩ = some (.int .i64 x1041003_1) ∧ w'.cell? ⟨gb1040, 4, none⟩ = some (.int .i64 x1041004_1) ∧ w'.cell? ⟨gb1040, 5, none⟩ = some (.int .i64 x1041005_1) ∧ w'.cell? ⟨gb1040, 6, none⟩ = some (.slice Ao27 x1041006_1.length co27) ∧ w'.cell? (ad1041.add ((x9_1).toNat * 2)) = some (.int .i64 ((rd_T74 l1 x9_1).f0)) ∧ w'.cell? ⟨(ad1041.add ((x9_1).toNat * 2)).block, (ad1041.add ((x9_1).toNat * 2)).off + 1, none⟩ = some (.int .i64 ((rd_T74 l1 x9_1).f1))) ∧ (Kd.S (Kd.slice 5 (Kd.int .u8)) 29 w' w.heap.size (fun k_ => some k_ ≠ (.slice Ao26 x1041000_1.length co26 : Value).ownBlock) s_.1 t1042) ∧ (Kd.R (Kd.int .i64) 3 w' w.heap.size (fun k_ => some k_ ≠ (.slice Ao27 x1041006_1.length co27 : Value).ownBlock) s_.2 t1050) ∧ (Kd.S (Kd.slice 5 (Kd.int .u8)) 29 w' w.heap.size (fun k_ => some k_ ≠ (s_.1 : Value).ownBlock) (.slice Ao26 x1041000_1.length co26) x1041000_1) ∧ (Kd.R (Kd.int .i64) 3 w' w.heap.size (fun k_ => some k_ ≠ (s_.2 : Value).ownBlock) (.slice Ao27 x1041006_1.length co27) x1041006_1) ∧ (Kd.R k32 32 w' w.heap.size (fun _ => True) u7 x7_1) ∧ (w'.heap[gb1023]? = some (.cells #[.slice A0_0 l0_0.length c0_0, .int .i64 a0_1, .int .i64 a0_2, .int .i64 a0_3, .int .i64 a0_4, .int .i64 a0_5, .slice A0_6 l0_6.length c0_6] 70 (0, 0))) ∧ (w'.heap[gb1024]? = some (.cells #[.slice none 0 0, .int .i64 x1025001_1, .int .i64 x1025002_1, .int .i64 x1025003_1, .int .i64 x1025004_1, .int .i64 x1025005_1, .slice none 0 0] 70 (0, 0))) ∧ (w'.heap[gb1040]? = some (.cells #[.slice Ao26 x1041000_1.length co26, .int .i64 x1041001_1, .int .i64 x1041002_1, .int .i64 x1041003_1, .int .i64 x1041004_1, .int .i64 x1041005_1, .slice Ao27 x1041006_1.length co27] 70 (0, 0))) ∧ (Below w.heap.size w w')) ?_ ?_
            rotate_left
            ·intro hJ5
             refine join_ (σ := Nat) 9 #[true, true, true, true, true, false, false, false, false, false, true, false, false, false, false] (fun s_ => [(10, .pointer (some ⟨s_, 0, none⟩))]) (fun s_ w' => (w'.cell? ⟨gb1040, 0, none⟩ = some (.slice Ao26 x1041000_1.length co26) ∧ w'.cell? ⟨gb1040, 1, none⟩ = some (.int .i64 x1041001_1) ∧ w'.cell? ⟨gb1040, 2, none⟩ = some (.int .i64 x1041002_1) ∧ w'.cell? ⟨gb1040, 3, none⟩ = some (.int .i64 x1041003_1) ∧ w'.cell? ⟨gb1040, 4, none⟩ = some (.int .i64 x1041004_1) ∧ w'.cell? ⟨gb1040, 5, none⟩ = some (.int .i64 x1041005_1) ∧ w'.cell? ⟨gb1040, 6, none⟩ = some (.slice Ao27 x1041006_1.length co27) ∧ w'.cell? (ad1041.add ((x9_1).toNat * 2)) = some (.int .i64 ((rd_T74 l1 x9_1).f0)) ∧ w'.cell? ⟨(ad1041.add ((x9_1).toNat * 2)).block, (ad1041.add ((x9_1).toNat * 2)).off + 1, none⟩ = some (.int .i64 ((rd_T74 l1 x9_1).f1))) ∧ (Kd.S (Kd.slice 5 (Kd.int .u8)) 29 w' w.heap.size (fun _ => True) (.slice Ao26 x1041000_1.length co26) x1041000_1) ∧ (Kd.R (Kd.int .i64) 3 w' w.heap.size (fun _ => True) (.slice Ao27 x1041006_1.length co27) x1041006_1) ∧ (Kd.R k32 32 w' w.heap.size (fun _ => True) u7 x7_1) ∧ (w'.heap[gb1023]? = some (.cells #[.slice A0_0 l0_0.length c0_0, .int .i64 a0_1, .int .i64 a0_2, .int .i64 a0_3, .int .i64 a0_4, .int .i64 a0_5, .slice A0_6 l0_6.length c0_6] 70 (0, 0))) ∧ (w'.heap[gb1024]? = some (.cells #[.slice none 0 0, .int .i64 x1025001_1, .int .i64 x1025002_1, .int .i64 x1025003_1, .int .i64 x1025004_1, .int .i64 x1025005_1, .slice none 0 0] 70 (0, 0))) ∧ (w'.heap[gb1040]? = some (.cells #[.slice Ao26 x1041000_1.length co26, .int .i64 x1041001_1, .int .i64 x1041002_1, .int .i64 x1041003_1, .int .i64 x1041004_1, .int .i64 x1041005_1, .slice Ao27 x1041006_1.length co27] 70 (0, 0))) ∧ (w'.heap[s_]? = some (.cells #[.slice none 0 0, .int .i64 0, .int .i64 0, .int .i64 0, .int .i64 0, .int .i64 0, .slice none 0 0] 70 (0, 0))) ∧ (w.heap.size ≤ s_) ∧ (w.heap.size ≤ s_) ∧ (gb1023 ≠ s_) ∧ (s_ ≠ gb1023) ∧ (gb1024 ≠ s_) ∧ (s_ ≠ gb1024) ∧ (gb1040 ≠ s_) ∧ (s_ ≠ gb1040) ∧ (Below w.heap.size w w')) ?_ ?_
             rotate_left
             ·intro hJ10
              refine join_ (σ := Nat) 9 #[true, true, true, true, true, false, false, false, false, false, false, true, false, false, false] (fun s_ => [(11, .pointer (some ⟨s_, 0, none⟩))]) (fun s_ w' => (w'.cell? ⟨gb1040, 0, none⟩ = some (.slice Ao26 x1041000_1.length co26) ∧ w'.cell? ⟨gb1040, 1, none⟩ = some (.int .i64 x1041001_1) ∧ w'.cell? ⟨gb1040, 2, none⟩ = some (.int .i64 x1041002_1) ∧ w'.cell? ⟨gb1040, 3, none⟩ = some (.int .i64 x1041003_1) ∧ w'.cell? ⟨gb1040, 4, none⟩ = some (.int .i64 x1041004_1) ∧ w'.cell? ⟨gb1040, 5, none⟩ = some (.int .i64 x1041005_1) ∧ w'.cell? ⟨gb1040, 6, none⟩ = some (.slice Ao27 x1041006_1.length co27) ∧ w'.cell? (ad1041.add ((x9_1).toNat * 2)) = some (.int .i64 ((rd_T74 l1 x9_1).f0)) ∧ w'.cell? ⟨(ad1041.add ((x9_1).toNat * 2)).block, (ad1041.add ((x9_1).toNat * 2)).off + 1, none⟩ = some (.int .i64 ((rd_T74 l1 x9_1).f1))) ∧ (Kd.S (Kd.slice 5 (Kd.int .u8)) 29 w' w.heap.size (fun _ => True) (.slice Ao26 x1041000_1.length co26) x1041000_1) ∧ (Kd.R (Kd.int .i64) 3 w' w.heap.size (fun _ => True) (.slice Ao27 x1041006_1.length co27) x1041006_1) ∧ (Kd.R k32 32 w' w.heap.size (fun k_ => k_ ≠ s_) u7 x7_1) ∧ (w'.heap[gb1023]? = some (.cells #[.slice A0_0 l0_0.length c0_0, .int .i64 a0_1, .int .i64 a0_2, .int .i64 a0_3, .int .i64 a0_4, .int .i64 a0_5, .slice A0_6 l0_6.length c0_6] 70 (0, 0))) ∧ (w'.heap[gb1024]? = some (.cells #[.slice none 0 0, .int .i64 x1025001_1, .int .i64 x1025002_1, .int .i64 x1025003_1, .int .i64 x1025004_1, .int .i64 x1025005_1, .slice none 0 0] 70 (0, 0))) ∧ (w'.heap[gb1040]? = some (.cells #[.slice Ao26 x1041000_1.length co26, .int .i64 x1041001_1, .int .i64 x1041002_1, .int .i64 x1041003_1, .int .i64 x1041004_1, .int .i64 x1041005_1, .slice Ao27 x1041006_1.length co27] 70 (0, 0))) ∧ (w'.heap[s_]? = some (.cells #[.int .i64 0, .int .i64 0, .int .i64 0, .int .i64 0] 32 (0, 0))) ∧ (w.heap.size ≤ s_) ∧ (w.heap.size ≤ s_) ∧ (gb1023 ≠ s_) ∧ (s_ ≠ gb1023) ∧ (gb1024 ≠ s_) ∧ (s_ ≠ gb1024) ∧ (gb1040 ≠ s_) ∧ (s_ ≠ gb1040) ∧ (Below w.heap.size w w')) ?_ ?_
              rotate_left
              ·intro hJ11
               refine three_ (i := 5) (j := 10) (k := 11) (Ni := some 36) (Nj := some 10) (Nk := some 11) #[true, true, true, true, true, true, false, false, false, false, false, false, false, false, false] #[true, true, true, true, true, false, false, false, false, false, true, false, false, false, false] #[true, true, true, true, true, false, false, false, false, false, false, true, false, false, false] rfl rfl rfl rfl rfl rfl (three_of HT_.out (by kernel_rfl)) (by decide) (by decide) (by decide) (fun K hK => ?_) (fun K hK => ?_) (fun K hK => ?_)
               ·skip
                refine goes_ Try.func36 (by kernel_rfl) rfl #[.agg #[.slice Ao26 x1041000_1.length co26, .int .i64 x1041001_1, .int .i64 x1041002_1, .int .i64 x1041003_1, .int .i64 x1041004_1, .int .i64 x1041005_1, .slice Ao27 x1041006_1.length co27], .agg #[.int .i64 ((rd_T74 l1 x9_1).f0), .int .i64 ((rd_T74 l1 x9_1).f1)]] (by rfl) rfl rfl ar_ ?_
                with_reducible refine (spec_Give.calls k1 _ _ x1041000_1 x1041001_1 x1041002_1 x1041003_1 x1041004_1 x1041005_1 _ _ x1041006_1 ((rd_T74 l1 x9_1).f0) ((rd_T74 l1 x9_1).f1) t1042 t1045 t1046 t1047 t1048 t1049 t1050 t1053 t1054 t1055 t1056 true _ ?side1 ?side2 ?side3 ?side4 A23.out).mono ?_
                (case side1 => repeat (first | exact (Kd.S_reads' HO_1041000.out).2.2 | (with_reducible refine Kd.C_alloc ?_ _) | (with_reducible refine Kd.C_drewN ?_ _) | (with_reducible refine Kd.C_drew ?_)))
                (case side2 => exact (Kd.S_reads' HO_1041000.out).2.1)
                (case side3 => repeat (first | exact (Kd.R_reads' HO_1041006.out).2.2 | (with_reducible refine Kd.C_alloc ?_ _) | (with_reducible refine Kd.C_drewN ?_ _) | (with_reducible refine Kd.C_drew ?_)))
                (case side4 => exact (Kd.R_reads' HO_1041006.out).2.1)
                rintro e w29 ⟨v1043, v1051, rfl, ho0, ho1, hb⟩
                refine ⟨_, rfl, ?_⟩
                replace HO_7 := Aside0.mk (Kd.R_below (rK_ HO_7) hb)
                have HO1044 := Aside0.mk (sL_ (Kd.S_new' ho0 (Kd.S_lt (sK_ HO_1041000))) HB)
                replace HO_1041000 := Aside0.mk (Kd.S_elder' (sK_ HO_1041000) (Kd.S_base ho0) hb)
                have HO1052 := Aside0.mk (rL_ (Kd.R_new' ho1 (Kd.R_lt (rK_ HO_1041006))) HB)
                replace HO_1041006 := Aside0.mk (Kd.R_elder' (rK_ HO_1041006) (Kd.R_base ho1) hb)
                replace BK1023 := bB_ BK1023 hb
                replace BK1024 := bB_ BK1024 hb
                replace BK1040 := bB_ BK1040 hb
                replace HB := Aside0.mk (below_step (by repeat (first | (with_reducible first | exact HB.out | apply ba_ | apply bn_ | apply bd_ | refine bset_ ?_ (by assumption)) | exact HB.out)) hb)
                (try clear hb)
                (try clear hb2)
                (try clear hk)
                (try clear hi)
                (try clear ho0)
                (try clear ho1)
                refine hK.out _ _ ⟨(blk_cell BK1040.out 0).trans rfl, (blk_cell BK1040.out 1).trans rfl, (blk_cell BK1040.out 2).trans rfl, (blk_cell BK1040.out 3).trans rfl, (blk_cell BK1040.out 4).trans rfl, (blk_cell BK1040.out 5).trans rfl, (blk_cell BK1040.out 6).trans rfl, ((HB.out.cell (World.block_lt_of_cell? w _ hw1041_0)).trans hw1041_0), ((HB.out.cell (World.block_lt_of_cell? w _ hw1041_1)).trans hw1041_1)⟩ (fun hHeld => ?_)
                clear hK K
                refine norm_ (a' := ?_) ?_ ?_
                rotate_left
                ·show Act.put _ (some 36) _ = _
                 simp only [Act.put, List.setIfInBounds_toArray, List.set_cons_zero, List.set_cons_succ, i64_w, i32_w]
                 rfl
                refine pure_ (i := 6) (N := some 30) (v := ?_) (a' := ?_) #[true, true, true, true, true, true, true, false, false, false, false, false, false, false, false] rfl rfl (any_of HT_.out (by kernel_rfl)) (fun _ _ _ h => h) (Or.inl ⟨by rfl, ?_⟩) ?_ ?_
                rotate_left
                ·intro w'
                 go_simp
                 with_reducible rfl
                rotate_left
                ·simp only [Act.put, List.setIfInBounds_toArray, List.set_cons_zero, List.set_cons_succ, i64_w, i32_w]
                 rfl
                refine pure_ (i := 7) (N := some 37) (v := ?_) (a' := ?_) #[true, true, true, true, true, true, true, true, false, false, false, false, false, false, false] rfl rfl (any_of HT_.out (by kernel_rfl)) (fun _ _ _ h => h) (Or.inl ⟨by rfl, ?_⟩) ?_ ?_
                rotate_left
                ·intro w'
                 go_simp
                 with_reducible rfl
                rotate_left
                ·simp only [Act.put, List.setIfInBounds_toArray, List.set_cons_zero, List.set_cons_succ, i64_w, i32_w]
                 rfl
                refine pure_ (i := 8) (N := some 38) (v := ?_) (a' := ?_) #[true, true, true, true, true, true, true, true, true, false, false, false, false, false, false] rfl rfl (any_of HT_.out (by kernel_rfl)) (fun _ _ _ h => h) (Or.inl ⟨by rfl, ?_⟩) ?_ ?_
                rotate_left
                ·intro w'
                 go_simp
                 with_reducible rfl
                rotate_left
                ·simp only [Act.put, List.setIfInBounds_toArray, List.set_cons_zero, List.set_cons_succ, i64_w, i32_w]
                 rfl
                refine pure_ (i := 9) (N := some 39) (v := ?_) (a' := ?_) #[true, true, true, true, true, true, true, true, true, true, false, false, false, false, false] rfl rfl (any_of HT_.out (by kernel_rfl)) (fun _ _ _ h => h) (Or.inl ⟨by rfl, ?_⟩) ?_ ?_
                rotate_left
                ·intro w'
                 go_simp
                 with_reducible rfl
                rotate_left
                ·simp only [Act.put, List.setIfInBounds_toArray, List.set_cons_zero, List.set_cons_succ, i64_w, i32_w]
                 rfl
                exact norm_ (by first | (simp only [putAll, Act.put, List.setIfInBounds_toArray, List.set_cons_zero, List.set_cons_succ]; done) | (simp only [putAll, Act.put, List.setIfInBounds_toArray, List.set_cons_zero, List.set_cons_succ]; rfl)) (hJ5 (v1043, v1051) _ ⟨hHeld, (by (with_reducible repeat first | apply ks1_ | apply ks2_ | apply ks3_); exact Kd.S_mono HO1044.out (fun _ hk => hk.2)), (by (with_reducible repeat first | apply kr1_ | apply kr2_ | apply kr3_); exact Kd.R_mono HO1052.out (fun _ hk => hk.2)), (by (with_reducible repeat first | apply ks1_ | apply ks2_ | apply ks3_); exact Kd.S_mono HO_1041000.out (fun _ hk => hk.2)), (by (with_reducible repeat first | apply kr1_ | apply kr2_ | apply kr3_); exact Kd.R_mono HO_1041006.out (fun _ hk => hk.2)), (rK_ HO_7), (bK_ BK1023), (bK_ BK1024), (bK_ BK1040), (by repeat (first | (with_reducible first | exact HB.out | apply ba_ | apply bn_ | apply bd_ | refine bset_ ?_ (by assumption)) | exact HB.out))⟩)
               ·skip
                refine box_step ?hg (N := 10) ?hd (cs := #[.slice none 0 0, .int .i64 0, .int .i64 0, .int .i64 0, .int .i64 0, .int .i64 0, .slice none 0 0]) (t := 70) ?hr ?_; (case hd => rfl); (case hg => rfl); (case hr => exact gs_)
                intro gb1058 hg w29 hbox hb
                replace HO_7 := Aside0.mk (Kd.R_below (rK_ HO_7) hb)
                replace HO_1041000 := Aside0.mk (Kd.S_below (sK_ HO_1041000) hb)
                replace HO_1041006 := Aside0.mk (Kd.R_below (rK_ HO_1041006) hb)
                have BK1058 := Aside0.mk (hbox)
                have GW1058 := gE_ HB hg
                have GE1058 := gE_ HB hg
                replace HB := Aside0.mk (below_step (by repeat (first | (with_reducible first | exact HB.out | apply ba_ | apply bn_ | apply bd_ | refine bset_ ?_ (by assumption)) | exact HB.out)) hb)
                have NB1023_1058 := nB_ BK1023 hg
                have NB1058_1023 := nA_ BK1023 hg
                replace BK1023 := bB_ BK1023 hb
                have NB1024_1058 := nB_ BK1024 hg
                have NB1058_1024 := nA_ BK1024 hg
                replace BK1024 := bB_ BK1024 hb
                have NB1040_1058 := nB_ BK1040 hg
                have NB1058_1040 := nA_ BK1040 hg
                replace BK1040 := bB_ BK1040 hb
                clear hb hbox hg
                refine hK.out _ _ ⟨(blk_cell BK1040.out 0).trans rfl, (blk_cell BK1040.out 1).trans rfl, (blk_cell BK1040.out 2).trans rfl, (blk_cell BK1040.out 3).trans rfl, (blk_cell BK1040.out 4).trans rfl, (blk_cell BK1040.out 5).trans rfl, (blk_cell BK1040.out 6).trans rfl, ((HB.out.cell (World.block_lt_of_cell? w _ hw1041_0)).trans hw1041_0), ((HB.out.cell (World.block_lt_of_cell? w _ hw1041_1)).trans hw1041_1)⟩ (fun hHeld => ?_)
                clear hK K
                refine norm_ (a' := ?_) ?_ ?_
                rotate_left
                ·show Act.put _ (some 10) _ = _
                 simp only [Act.put, List.setIfInBounds_toArray, List.set_cons_zero, List.set_cons_succ, i64_w, i32_w]
                 rfl
                exact norm_ (by first | (simp only [putAll, Act.put, List.setIfInBounds_toArray, List.set_cons_zero, List.set_cons_succ]; done) | (simp only [putAll, Act.put, List.setIfInBounds_toArray, List.set_cons_zero, List.set_cons_succ]; rfl)) (hJ10 (gb1058) _ ⟨hHeld, (sK_ HO_1041000), (rK_ HO_1041006), (rK_ HO_7), (bK_ BK1023), (bK_ BK1024), (bK_ BK1040), (bK_ BK1058), GW1058.out, GE1058.out, NB1023_1058.out, NB1058_1023.out, NB1024_1058.out, NB1058_1024.out, NB1040_1058.out, NB1058_1040.out, (by repeat (first | (with_reducible first | exact HB.out | apply ba_ | apply bn_ | apply bd_ | refine bset_ ?_ (by assumption)) | exact HB.out))⟩)
               ·skip
                refine box_step ?hg (N := 11) ?hd (cs := #[.int .i64 0, .int .i64 0, .int .i64 0, .int .i64 0]) (t := 32) ?hr ?_; (case hd => rfl); (case hg => rfl); (case hr => exact gs_)
                intro gb1059 hg w29 hbox hb
                replace HO_7 := Aside0.mk (Kd.R_below (Kd.R_elderB (rK_ HO_7) gb1059 (Nat.le_of_eq hg.symm)) hb)
                replace HO_1041000 := Aside0.mk (Kd.S_below (sK_ HO_1041000) hb)
                replace HO_1041006 := Aside0.mk (Kd.R_below (rK_ HO_1041006) hb)
                have BK1059 := Aside0.mk (hbox)
                have GW1059 := gE_ HB hg
                have GE1059 := gE_ HB hg
                replace HB := Aside0.mk (below_step (by repeat (first | (with_reducible first | exact HB.out | apply ba_ | apply bn_ | apply bd_ | refine bset_ ?_ (by assumption)) | exact HB.out)) hb)
                have NB1023_1059 := nB_ BK1023 hg
                have NB1059_1023 := nA_ BK1023 hg
                replace BK1023 := bB_ BK1023 hb
                have NB1024_1059 := nB_ BK1024 hg
                have NB1059_1024 := nA_ BK1024 hg
                replace BK1024 := bB_ BK1024 hb
                have NB1040_1059 := nB_ BK1040 hg
                have NB1059_1040 := nA_ BK1040 hg
                replace BK1040 := bB_ BK1040 hb
                clear hb hbox hg
                refine hK.out _ _ ⟨(blk_cell BK1040.out 0).trans rfl, (blk_cell BK1040.out 1).trans rfl, (blk_cell BK1040.out 2).trans rfl, (blk_cell BK1040.out 3).trans rfl, (blk_cell BK1040.out 4).trans rfl, (blk_cell BK1040.out 5).trans rfl, (blk_cell BK1040.out 6).trans rfl, ((HB.out.cell (World.block_lt_of_cell? w _ hw1041_0)).trans hw1041_0), ((HB.out.cell (World.block_lt_of_cell? w _ hw1041_1)).trans hw1041_1)⟩ (fun hHeld => ?_)
                clear hK K
                refine norm_ (a' := ?_) ?_ ?_
                rotate_left
                ·show Act.put _ (some 11) _ = _
                 simp only [Act.put, List.setIfInBounds_toArray, List.set_cons_zero, List.set_cons_succ, i64_w, i32_w]
                 rfl
                exact norm_ (by first | (simp only [putAll, Act.put, List.setIfInBounds_toArray, List.set_cons_zero, List.set_cons_succ]; done) | (simp only [putAll, Act.put, List.setIfInBounds_toArray, List.set_cons_zero, List.set_cons_succ]; rfl)) (hJ11 (gb1059) _ ⟨hHeld, (sK_ HO_1041000), (rK_ HO_1041006), (by (with_reducible repeat first | apply kr1_ | apply kr2_ | apply kr3_); exact Kd.R_mono HO_7.out (fun _ hk => hk.2)), (bK_ BK1023), (bK_ BK1024), (bK_ BK1040), (bK_ BK1059), GW1059.out, GE1059.out, NB1023_1059.out, NB1059_1023.out, NB1024_1059.out, NB1059_1024.out, NB1040_1059.out, NB1059_1040.out, (by repeat (first | (with_reducible first | exact HB.out | apply ba_ | apply bn_ | apply bd_ | refine bset_ ?_ (by assumption)) | exact HB.out))⟩)
              ·skip
               rintro gb1059 w30 ⟨hS_, h0_, h1_, h2_, h3_, h4_, h5_, h6_, h7_, h8_, h9_, h10_, h11_, h12_, h13_, h14_, h15_⟩
               have n0_ : Aside0 (Kd.S (Kd.slice 5 (Kd.int .u8)) 29 w30 w.heap.size (fun _ => True) (.slice Ao26 x1041000_1.length co26) x1041000_1) := ⟨h0_⟩
               have n1_ : Aside0 (Kd.R (Kd.int .i64) 3 w30 w.heap.size (fun _ => True) (.slice Ao27 x1041006_1.length co27) x1041006_1) := ⟨h1_⟩
               have n2_ : Aside0 (Kd.R k32 32 w30 w.heap.size (fun k_ => k_ ≠ gb1059) u7 x7_1) := ⟨h2_⟩
               have n3_ : Aside0 (w30.heap[gb1023]? = some (.cells #[.slice A0_0 l0_0.length c0_0, .int .i64 a0_1, .int .i64 a0_2, .int .i64 a0_3, .int .i64 a0_4, .int .i64 a0_5, .slice A0_6 l0_6.length c0_6] 70 (0, 0))) := ⟨h3_⟩
               have n4_ : Aside0 (w30.heap[gb1024]? = some (.cells #[.slice none 0 0, .int .i64 x1025001_1, .int .i64 x1025002_1, .int .i64 x1025003_1, .int .i64 x1025004_1, .int .i64 x1025005_1, .slice none 0 0] 70 (0, 0))) := ⟨h4_⟩
               have n5_ : Aside0 (w30.heap[gb1040]? = some (.cells #[.slice Ao26 x1041000_1.length co26, .int .i64 x1041001_1, .int .i64 x1041002_1, .int .i64 x1041003_1, .int .i64 x1041004_1, .int .i64 x1041005_1, .slice Ao27 x1041006_1.length co27] 70 (0, 0))) := ⟨h5_⟩
               have n6_ : Aside0 (w30.heap[gb1059]? = some (.cells #[.int .i64 0, .int .i64 0, .int .i64 0, .int .i64 0] 32 (0, 0))) := ⟨h6_⟩
               have n7_ : Aside0 (w.heap.size ≤ gb1059) := ⟨h7_⟩
               have n8_ : Aside0 (w.heap.size ≤ gb1059) := ⟨h8_⟩
               have n9_ : Aside0 (gb1023 ≠ gb1059) := ⟨h9_⟩
               have n10_ : Aside0 (gb1059 ≠ gb1023) := ⟨h10_⟩
               have n11_ : Aside0 (gb1024 ≠ gb1059) := ⟨h11_⟩
               have n12_ : Aside0 (gb1059 ≠ gb1024) := ⟨h12_⟩
               have n13_ : Aside0 (gb1040 ≠ gb1059) := ⟨h13_⟩
               have n14_ : Aside0 (gb1059 ≠ gb1040) := ⟨h14_⟩
               have n15_ : Aside0 (Below w.heap.size w w30) := ⟨h15_⟩
               clear HO_7
               clear HO_1041000
               clear HO_1041006
               clear BK1023
               clear BK1024
               clear BK1040
               clear HB
               clear h0_ h1_ h2_ h3_ h4_ h5_ h6_ h7_ h8_ h9_ h10_ h11_ h12_ h13_ h14_ h15_
               have HO_1041000 := n0_
               have HO_1041006 := n1_
               have HO_7 := n2_
               have BK1023 := n3_
               have BK1024 := n4_
               have BK1040 := n5_
               have BK1059 := n6_
               have GW1059 := n7_
               have GE1059 := n8_
               have NB1023_1059 := n9_
               have NB1059_1023 := n10_
               have NB1024_1059 := n11_
               have NB1059_1024 := n12_
               have NB1040_1059 := n13_
               have NB1059_1040 := n14_
               have HB := n15_
               clear n0_ n1_ n2_ n3_ n4_ n5_ n6_ n7_ n8_ n9_ n10_ n11_ n12_ n13_ n14_ n15_
               have hHeld := hS_
               refine norm_ (a' := ?_) ?_ ?_
               rotate_left
               ·simp only [putAll, Act.put, List.setIfInBounds_toArray, List.set_cons_zero, List.set_cons_succ]
                rfl
               refine two_ (i := 5) (j := 10) (Ni := some 36) (Nj := some 10) #[true, true, true, true, true, true, false, false, false, false, false, true, false, false, false] #[true, true, true, true, true, false, false, false, false, false, true, true, false, false, false] rfl rfl rfl rfl (two_of HT_.out (by kernel_rfl)) (by decide) (by decide) (fun K hK => ?_) (fun K hK => ?_)
               ·skip
                refine goes_ Try.func36 (by kernel_rfl) rfl #[.agg #[.slice Ao26 x1041000_1.length co26, .int .i64 x1041001_1, .int .i64 x1041002_1, .int .i64 x1041003_1, .int .i64 x1041004_1, .int .i64 x1041005_1, .slice Ao27 x1041006_1.length co27], .agg #[.int .i64 ((rd_T74 l1 x9_1).f0), .int .i64 ((rd_T74 l1 x9_1).f1)]] (by rfl) rfl rfl ar_ ?_
                with_reducible refine (spec_Give.calls k1 _ _ x1041000_1 x1041001_1 x1041002_1 x1041003_1 x1041004_1 x1041005_1 _ _ x1041006_1 ((rd_T74 l1 x9_1).f0) ((rd_T74 l1 x9_1).f1) t1042 t1045 t1046 t1047 t1048 t1049 t1050 t1053 t1054 t1055 t1056 true _ ?side1 ?side2 ?side3 ?side4 A23.out).mono ?_
                (case side1 => repeat (first | exact (Kd.S_reads' HO_1041000.out).2.2 | (with_reducible refine Kd.C_alloc ?_ _) | (with_reducible refine Kd.C_drewN ?_ _) | (with_reducible refine Kd.C_drew ?_)))
                (case side2 => exact (Kd.S_reads' HO_1041000.out).2.1)
                (case side3 => repeat (first | exact (Kd.R_reads' HO_1041006.out).2.2 | (with_reducible refine Kd.C_alloc ?_ _) | (with_reducible refine Kd.C_drewN ?_ _) | (with_reducible refine Kd.C_drew ?_)))
                (case side4 => exact (Kd.R_reads' HO_1041006.out).2.1)
                rintro e w31 ⟨v1043, v1051, rfl, ho0, ho1, hb⟩
                refine ⟨_, rfl, ?_⟩
                replace HO_7 := Aside0.mk (Kd.R_below (rK_ HO_7) hb)
                have HO1044 := Aside0.mk (sL_ (Kd.S_new' ho0 (Kd.S_lt (sK_ HO_1041000))) HB)
                replace HO_1041000 := Aside0.mk (Kd.S_elder' (sK_ HO_1041000) (Kd.S_base ho0) hb)
                have HO1052 := Aside0.mk (rL_ (Kd.R_new' ho1 (Kd.R_lt (rK_ HO_1041006))) HB)
                replace HO_1041006 := Aside0.mk (Kd.R_elder' (rK_ HO_1041006) (Kd.R_base ho1) hb)
                replace BK1023 := bB_ BK1023 hb
                replace BK1024 := bB_ BK1024 hb
                replace BK1040 := bB_ BK1040 hb
                replace BK1059 := bB_ BK1059 hb
                replace HB := Aside0.mk (below_step (by repeat (first | (with_reducible first | exact HB.out | apply ba_ | apply bn_ | apply bd_ | refine bset_ ?_ (by assumption)) | exact HB.out)) hb)
                (try clear hb)
                (try clear hb2)
                (try clear hk)
                (try clear hi)
                (try clear ho0)
                (try clear ho1)
                refine hK.out _ _ ⟨(blk_cell BK1040.out 0).trans rfl, (blk_cell BK1040.out 1).trans rfl, (blk_cell BK1040.out 2).trans rfl, (blk_cell BK1040.out 3).trans rfl, (blk_cell BK1040.out 4).trans rfl, (blk_cell BK1040.out 5).trans rfl, (blk_cell BK1040.out 6).trans rfl, ((HB.out.cell (World.block_lt_of_cell? w _ hw1041_0)).trans hw1041_0), ((HB.out.cell (World.block_lt_of_cell? w _ hw1041_1)).trans hw1041_1)⟩ (fun hHeld => ?_)
                clear hK K
                refine norm_ (a' := ?_) ?_ ?_
                rotate_left
                ·show Act.put _ (some 36) _ = _
                 simp only [Act.put, List.setIfInBounds_toArray, List.set_cons_zero, List.set_cons_succ, i64_w, i32_w]
                 rfl
                refine pure_ (i := 6) (N := some 30) (v := ?_) (a' := ?_) #[true, true, true, true, true, true, true, false, false, false, false, true, false, false, false] rfl rfl (any_of HT_.out (by kernel_rfl)) (fun _ _ _ h => h) (Or.inl ⟨by rfl, ?_⟩) ?_ ?_
                rotate_left
                ·intro w'
                 go_simp
                 with_reducible rfl
                rotate_left
                ·simp only [Act.put, List.setIfInBounds_toArray, List.set_cons_zero, List.set_cons_succ, i64_w, i32_w]
                 rfl
                refine pure_ (i := 7) (N := some 37) (v := ?_) (a' := ?_) #[true, true, true, true, true, true, true, true, false, false, false, true, false, false, false] rfl rfl (any_of HT_.out (by kernel_rfl)) (fun _ _ _ h => h) (Or.inl ⟨by rfl, ?_⟩) ?_ ?_
                rotate_left
                ·intro w'
                 go_simp
                 with_reducible rfl
                rotate_left
                ·simp only [Act.put, List.setIfInBounds_toArray, List.set_cons_zero, List.set_cons_succ, i64_w, i32_w]
                 rfl
                refine pure_ (i := 8) (N := some 38) (v := ?_) (a' := ?_) #[true, true, true, true, true, true, true, true, true, false, false, true, false, false, false] rfl rfl (any_of HT_.out (by kernel_rfl)) (fun _ _ _ h => h) (Or.inl ⟨by rfl, ?_⟩) ?_ ?_
                rotate_left
                ·intro w'
                 go_simp
                 with_reducible rfl
                rotate_left
                ·simp only [Act.put, List.setIfInBounds_toArray, List.set_cons_zero, List.set_cons_succ, i64_w, i32_w]
                 rfl
                refine pure_ (i := 9) (N := some 39) (v := ?_) (a' := ?_) #[true, true, true, true, true, true, true, true, true, true, false, true, false, false, false] rfl rfl (any_of HT_.out (by kernel_rfl)) (fun _ _ _ h => h) (Or.inl ⟨by rfl, ?_⟩) ?_ ?_
                rotate_left
                ·intro w'
                 go_simp
                 with_reducible rfl
                rotate_left
                ·simp only [Act.put, List.setIfInBounds_toArray, List.set_cons_zero, List.set_cons_succ, i64_w, i32_w]
                 rfl
                exact norm_ (by first | (simp only [putAll, Act.put, List.setIfInBounds_toArray, List.set_cons_zero, List.set_cons_succ]; done) | (simp only [putAll, Act.put, List.setIfInBounds_toArray, List.set_cons_zero, List.set_cons_succ]; rfl)) (hJ5_11 (v1043, v1051, gb1059) _ ⟨hHeld, (by (with_reducible repeat first | apply ks1_ | apply ks2_ | apply ks3_); exact Kd.S_mono HO1044.out (fun _ hk => hk.2)), (by (with_reducible repeat first | apply kr1_ | apply kr2_ | apply kr3_); exact Kd.R_mono HO1052.out (fun _ hk => hk.2)), (by (with_reducible repeat first | apply ks1_ | apply ks2_ | apply ks3_); exact Kd.S_mono HO_1041000.out (fun _ hk => hk.2)), (by (with_reducible repeat first | apply kr1_ | apply kr2_ | apply kr3_); exact Kd.R_mono HO_1041006.out (fun _ hk => hk.2)), (rK_ HO_7), (bK_ BK1023), (bK_ BK1024), (bK_ BK1040), (bK_ BK1059), GW1059.out, GE1059.out, NB1023_1059.out, NB1059_1023.out, NB1024_1059.out, NB1059_1024.out, NB1040_1059.out, NB1059_1040.out, (by repeat (first | (with_reducible first | exact HB.out | apply ba_ | apply bn_ | apply bd_ | refine bset_ ?_ (by assumption)) | exact HB.out))⟩)
               ·skip
                refine box_step ?hg (N := 10) ?hd (cs := #[.slice none 0 0, .int .i64 0, .int .i64 0, .int .i64 0, .int .i64 0, .int .i64 0, .slice none 0 0]) (t := 70) ?hr ?_; (case hd => rfl); (case hg => rfl); (case hr => exact gs_)
                intro gb1058 hg w31 hbox hb
                replace HO_7 := Aside0.mk (Kd.R_below (rK_ HO_7) hb)
                replace HO_1041000 := Aside0.mk (Kd.S_below (sK_ HO_1041000) hb)
                replace HO_1041006 := Aside0.mk (Kd.R_below (rK_ HO_1041006) hb)
                have BK1058 := Aside0.mk (hbox)
                have GW1058 := gE_ HB hg
                have GE1058 := gE_ HB hg
                replace HB := Aside0.mk (below_step (by repeat (first | (with_reducible first | exact HB.out | apply ba_ | apply bn_ | apply bd_ | refine bset_ ?_ (by assumption)) | exact HB.out)) hb)
                have NB1023_1058 := nB_ BK1023 hg
                have NB1058_1023 := nA_ BK1023 hg
                replace BK1023 := bB_ BK1023 hb
                have NB1024_1058 := nB_ BK1024 hg
                have NB1058_1024 := nA_ BK1024 hg
                replace BK1024 := bB_ BK1024 hb
                have NB1040_1058 := nB_ BK1040 hg
                have NB1058_1040 := nA_ BK1040 hg
                replace BK1040 := bB_ BK1040 hb
                have NB1059_1058 := nB_ BK1059 hg
                have NB1058_1059 := nA_ BK1059 hg
                replace BK1059 := bB_ BK1059 hb
                clear hb hbox hg
                refine hK.out _ _ ⟨(blk_cell BK1040.out 0).trans rfl, (blk_cell BK1040.out 1).trans rfl, (blk_cell BK1040.out 2).trans rfl, (blk_cell BK1040.out 3).trans rfl, (blk_cell BK1040.out 4).trans rfl, (blk_cell BK1040.out 5).trans rfl, (blk_cell BK1040.out 6).trans rfl, ((HB.out.cell (World.block_lt_of_cell? w _ hw1041_0)).trans hw1041_0), ((HB.out.cell (World.block_lt_of_cell? w _ hw1041_1)).trans hw1041_1)⟩ (fun hHeld => ?_)
                clear hK K
                refine norm_ (a' := ?_) ?_ ?_
                rotate_left
                ·show Act.put _ (some 10) _ = _
                 simp only [Act.put, List.setIfInBounds_toArray, List.set_cons_zero, List.set_cons_succ, i64_w, i32_w]
                 rfl
                exact norm_ (by first | (simp only [putAll, Act.put, List.setIfInBounds_toArray, List.set_cons_zero, List.set_cons_succ]; done) | (simp only [putAll, Act.put, List.setIfInBounds_toArray, List.set_cons_zero, List.set_cons_succ]; rfl)) (hJ10_11 (gb1058, gb1059) _ ⟨hHeld, (sK_ HO_1041000), (rK_ HO_1041006), (rK_ HO_7), (bK_ BK1023), (bK_ BK1024), (bK_ BK1040), (bK_ BK1058), (bK_ BK1059), GW1058.out, GE1058.out, NB1023_1058.out, NB1058_1023.out, NB1024_1058.out, NB1058_1024.out, NB1040_1058.out, NB1058_1040.out, NB1059_1058.out, NB1058_1059.out, GW1059.out, GE1059.out, NB1023_1059.out, NB1059_1023.out, NB1024_1059.out, NB1059_1024.out, NB1040_1059.out, NB1059_1040.out, (by repeat (first | (with_reducible first | exact HB.out | apply ba_ | apply bn_ | apply bd_ | refine bset_ ?_ (by assumption)) | exact HB.out))⟩)
             ·skip
              rintro gb1058 w30 ⟨hS_, h0_, h1_, h2_, h3_, h4_, h5_, h6_, h7_, h8_, h9_, h10_, h11_, h12_, h13_, h14_, h15_⟩
              have n0_ : Aside0 (Kd.S (Kd.slice 5 (Kd.int .u8)) 29 w30 w.heap.size (fun _ => True) (.slice Ao26 x1041000_1.length co26) x1041000_1) := ⟨h0_⟩
              have n1_ : Aside0 (Kd.R (Kd.int .i64) 3 w30 w.heap.size (fun _ => True) (.slice Ao27 x1041006_1.length co27) x1041006_1) := ⟨h1_⟩
              have n2_ : Aside0 (Kd.R k32 32 w30 w.heap.size (fun _ => True) u7 x7_1) := ⟨h2_⟩
              have n3_ : Aside0 (w30.heap[gb1023]? = some (.cells #[.slice A0_0 l0_0.length c0_0, .int .i64 a0_1, .int .i64 a0_2, .int .i64 a0_3, .int .i64 a0_4, .int .i64 a0_5, .slice A0_6 l0_6.length c0_6] 70 (0, 0))) := ⟨h3_⟩
              have n4_ : Aside0 (w30.heap[gb1024]? = some (.cells #[.slice none 0 0, .int .i64 x1025001_1, .int .i64 x1025002_1, .int .i64 x1025003_1, .int .i64 x1025004_1, .int .i64 x1025005_1, .slice none 0 0] 70 (0, 0))) := ⟨h4_⟩
              have n5_ : Aside0 (w30.heap[gb1040]? = some (.cells #[.slice Ao26 x1041000_1.length co26, .int .i64 x1041001_1, .int .i64 x1041002_1, .int .i64 x1041003_1, .int .i64 x1041004_1, .int .i64 x1041005_1, .slice Ao27 x1041006_1.length co27] 70 (0, 0))) := ⟨h5_⟩
              have n6_ : Aside0 (w30.heap[gb1058]? = some (.cells #[.slice none 0 0, .int .i64 0, .int .i64 0, .int .i64 0, .int .i64 0, .int .i64 0, .slice none 0 0] 70 (0, 0))) := ⟨h6_⟩
              have n7_ : Aside0 (w.heap.size ≤ gb1058) := ⟨h7_⟩
              have n8_ : Aside0 (w.heap.size ≤ gb1058) := ⟨h8_⟩
              have n9_ : Aside0 (gb1023 ≠ gb1058) := ⟨h9_⟩
              have n10_ : Aside0 (gb1058 ≠ gb1023) := ⟨h10_⟩
              have n11_ : Aside0 (gb1024 ≠ gb1058) := ⟨h11_⟩
              have n12_ : Aside0 (gb1058 ≠ gb1024) := ⟨h12_⟩
              have n13_ : Aside0 (gb1040 ≠ gb1058) := ⟨h13_⟩
              have n14_ : Aside0 (gb1058 ≠ gb1040) := ⟨h14_⟩
              have n15_ : Aside0 (Below w.heap.size w w30) := ⟨h15_⟩
              clear HO_7
              clear HO_1041000
              clear HO_1041006
              clear BK1023
              clear BK1024
              clear BK1040
              clear HB
              clear h0_ h1_ h2_ h3_ h4_ h5_ h6_ h7_ h8_ h9_ h10_ h11_ h12_ h13_ h14_ h15_
              have HO_1041000 := n0_
              have HO_1041006 := n1_
              have HO_7 := n2_
              have BK1023 := n3_
              have BK1024 := n4_
              have BK1040 := n5_
              have BK1058 := n6_
              have GW1058 := n7_
              have GE1058 := n8_
              have NB1023_1058 := n9_
              have NB1058_1023 := n10_
              have NB1024_1058 := n11_
              have NB1058_1024 := n12_
              have NB1040_1058 := n13_
              have NB1058_1040 := n14_
              have HB := n15_
              clear n0_ n1_ n2_ n3_ n4_ n5_ n6_ n7_ n8_ n9_ n10_ n11_ n12_ n13_ n14_ n15_
              have hHeld := hS_
              refine norm_ (a' := ?_) ?_ ?_
              rotate_left
              ·simp only [putAll, Act.put, List.setIfInBounds_toArray, List.set_cons_zero, List.set_cons_succ]
               rfl
              refine two_ (i := 5) (j := 11) (Ni := some 36) (Nj := some 11) #[true, true, true, true, true, true, false, false, false, false, true, false, false, false, false] #[true, true, true, true, true, false, false, false, false, false, true, true, false, false, false] rfl rfl rfl rfl (two_of HT_.out (by kernel_rfl)) (by decide) (by decide) (fun K hK => ?_) (fun K hK => ?_)
              ·skip
               refine goes_ Try.func36 (by kernel_rfl) rfl #[.agg #[.slice Ao26 x1041000_1.length co26, .int .i64 x1041001_1, .int .i64 x1041002_1, .int .i64 x1041003_1, .int .i64 x1041004_1, .int .i64 x1041005_1, .slice Ao27 x1041006_1.length co27], .agg #[.int .i64 ((rd_T74 l1 x9_1).f0), .int .i64 ((rd_T74 l1 x9_1).f1)]] (by rfl) rfl rfl ar_ ?_
               with_reducible refine (spec_Give.calls k1 _ _ x1041000_1 x1041001_1 x1041002_1 x1041003_1 x1041004_1 x1041005_1 _ _ x1041006_1 ((rd_T74 l1 x9_1).f0) ((rd_T74 l1 x9_1).f1) t1042 t1045 t1046 t1047 t1048 t1049 t1050 t1053 t1054 t1055 t1056 true _ ?side1 ?side2 ?side3 ?side4 A23.out).mono ?_
               (case side1 => repeat (first | exact (Kd.S_reads' HO_1041000.out).2.2 | (with_reducible refine Kd.C_alloc ?_ _) | (with_reducible refine Kd.C_drewN ?_ _) | (with_reducible refine Kd.C_drew ?_)))
               (case side2 => exact (Kd.S_reads' HO_1041000.out).2.1)
               (case side3 => repeat (first | exact (Kd.R_reads' HO_1041006.out).2.2 | (with_reducible refine Kd.C_alloc ?_ _) | (with_reducible refine Kd.C_drewN ?_ _) | (with_reducible refine Kd.C_drew ?_)))
               (case side4 => exact (Kd.R_reads' HO_1041006.out).2.1)
               rintro e w31 ⟨v1043, v1051, rfl, ho0, ho1, hb⟩
               refine ⟨_, rfl, ?_⟩
               replace HO_7 := Aside0.mk (Kd.R_below (rK_ HO_7) hb)
               have HO1044 := Aside0.mk (sL_ (Kd.S_new' ho0 (Kd.S_lt (sK_ HO_1041000))) HB)
               replace HO_1041000 := Aside0.mk (Kd.S_elder' (sK_ HO_1041000) (Kd.S_base ho0) hb)
               have HO1052 := Aside0.mk (rL_ (Kd.R_new' ho1 (Kd.R_lt (rK_ HO_1041006))) HB)
               replace HO_1041006 := Aside0.mk (Kd.R_elder' (rK_ HO_1041006) (Kd.R_base ho1) hb)
               replace BK1023 := bB_ BK1023 hb
               replace BK1024 := bB_ BK1024 hb
               replace BK1040 := bB_ BK1040 hb
               replace BK1058 := bB_ BK1058 hb
               replace HB := Aside0.mk (below_step (by repeat (first | (with_reducible first | exact HB.out | apply ba_ | apply bn_ | apply bd_ | refine bset_ ?_ (by assumption)) | exact HB.out)) hb)
               (try clear hb)
               (try clear hb2)
               (try clear hk)
               (try clear hi)
               (try clear ho0)
               (try clear ho1)
               refine hK.out _ _ ⟨(blk_cell BK1040.out 0).trans rfl, (blk_cell BK1040.out 1).trans rfl, (blk_cell BK1040.out 2).trans rfl, (blk_cell BK1040.out 3).trans rfl, (blk_cell BK1040.out 4).trans rfl, (blk_cell BK1040.out 5).trans rfl, (blk_cell BK1040.out 6).trans rfl, ((HB.out.cell (World.block_lt_of_cell? w _ hw1041_0)).trans hw1041_0), ((HB.out.cell (World.block_lt_of_cell? w _ hw1041_1)).trans hw1041_1)⟩ (fun hHeld => ?_)
               clear hK K
               refine norm_ (a' := ?_) ?_ ?_
               rotate_left
               ·show Act.put _ (some 36) _ = _
                simp only [Act.put, List.setIfInBounds_toArray, List.set_cons_zero, List.set_cons_succ, i64_w, i32_w]
                rfl
               refine pure_ (i := 6) (N := some 30) (v := ?_) (a' := ?_) #[true, true, true, true, true, true, true, false, false, false, true, false, false, false, false] rfl rfl (any_of HT_.out (by kernel_rfl)) (fun _ _ _ h => h) (Or.inl ⟨by rfl, ?_⟩) ?_ ?_
               rotate_left
               ·intro w'
                go_simp
                with_reducible rfl
               rotate_left
               ·simp only [Act.put, List.setIfInBounds_toArray, List.set_cons_zero, List.set_cons_succ, i64_w, i32_w]
                rfl
               refine pure_ (i := 7) (N := some 37) (v := ?_) (a' := ?_) #[true, true, true, true, true, true, true, true, false, false, true, false, false, false, false] rfl rfl (any_of HT_.out (by kernel_rfl)) (fun _ _ _ h => h) (Or.inl ⟨by rfl, ?_⟩) ?_ ?_
               rotate_left
               ·intro w'
                go_simp
                with_reducible rfl
               rotate_left
               ·simp only [Act.put, List.setIfInBounds_toArray, List.set_cons_zero, List.set_cons_succ, i64_w, i32_w]
                rfl
               refine pure_ (i := 8) (N := some 38) (v := ?_) (a' := ?_) #[true, true, true, true, true, true, true, true, true, false, true, false, false, false, false] rfl rfl (any_of HT_.out (by kernel_rfl)) (fun _ _ _ h => h) (Or.inl ⟨by rfl, ?_⟩) ?_ ?_
               rotate_left
               ·intro w'
                go_simp
                with_reducible rfl
               rotate_left
               ·simp only [Act.put, List.setIfInBounds_toArray, List.set_cons_zero, List.set_cons_succ, i64_w, i32_w]
                rfl
               refine pure_ (i := 9) (N := some 39) (v := ?_) (a' := ?_) #[true, true, true, true, true, true, true, true, true, true, true, false, false, false, false] rfl rfl (any_of HT_.out (by kernel_rfl)) (fun _ _ _ h => h) (Or.inl ⟨by rfl, ?_⟩) ?_ ?_
               rotate_left
               ·intro w'
                go_simp
                with_reducible rfl
               rotate_left
               ·simp only [Act.put, List.setIfInBounds_toArray, List.set_cons_zero, List.set_cons_succ, i64_w, i32_w]
                rfl
               exact norm_ (by first | (simp only [putAll, Act.put, List.setIfInBounds_toArray, List.set_cons_zero, List.set_cons_succ]; done) | (simp only [putAll, Act.put, List.setIfInBounds_toArray, List.set_cons_zero, List.set_cons_succ]; rfl)) (hJ5_10 (v1043, v1051, gb1058) _ ⟨hHeld, (by (with_reducible repeat first | apply ks1_ | apply ks2_ | apply ks3_); exact Kd.S_mono HO1044.out (fun _ hk => hk.2)), (by (with_reducible repeat first | apply kr1_ | apply kr2_ | apply kr3_); exact Kd.R_mono HO1052.out (fun _ hk => hk.2)), (by (with_reducible repeat first | apply ks1_ | apply ks2_ | apply ks3_); exact Kd.S_mono HO_1041000.out (fun _ hk => hk.2)), (by (with_reducible repeat first | apply kr1_ | apply kr2_ | apply kr3_); exact Kd.R_mono HO_1041006.out (fun _ hk => hk.2)), (rK_ HO_7), (bK_ BK1023), (bK_ BK1024), (bK_ BK1040), (bK_ BK1058), GW1058.out, GE1058.out, NB1023_1058.out, NB1058_1023.out, NB1024_1058.out, NB1058_1024.out, NB1040_1058.out, NB1058_1040.out, (by repeat (first | (with_reducible first | exact HB.out | apply ba_ | apply bn_ | apply bd_ | refine bset_ ?_ (by assumption)) | exact HB.out))⟩)
              ·skip
               refine box_step ?hg (N := 11) ?hd (cs := #[.int .i64 0, .int .i64 0, .int .i64 0, .int .i64 0]) (t := 32) ?hr ?_; (case hd => rfl); (case hg => rfl); (case hr => exact gs_)
               intro gb1059 hg w31 hbox hb
               replace HO_7 := Aside0.mk (Kd.R_below (Kd.R_elderB (rK_ HO_7) gb1059 (Nat.le_of_eq hg.symm)) hb)
               replace HO_1041000 := Aside0.mk (Kd.S_below (sK_ HO_1041000) hb)
               replace HO_1041006 := Aside0.mk (Kd.R_below (rK_ HO_1041006) hb)
               have BK1059 := Aside0.mk (hbox)
               have GW1059 := gE_ HB hg
               have GE1059 := gE_ HB hg
               replace HB := Aside0.mk (below_step (by repeat (first | (with_reducible first | exact HB.out | apply ba_ | apply bn_ | apply bd_ | refine bset_ ?_ (by assumption)) | exact HB.out)) hb)
               have NB1023_1059 := nB_ BK1023 hg
               have NB1059_1023 := nA_ BK1023 hg
               replace BK1023 := bB_ BK1023 hb
               have NB1024_1059 := nB_ BK1024 hg
               have NB1059_1024 := nA_ BK1024 hg
               replace BK1024 := bB_ BK1024 hb
               have NB1040_1059 := nB_ BK1040 hg
               have NB1059_1040 := nA_ BK1040 hg
               replace BK1040 := bB_ BK1040 hb
               have NB1058_1059 := nB_ BK1058 hg
               have NB1059_1058 := nA_ BK1058 hg
               replace BK1058 := bB_ BK1058 hb
               clear hb hbox hg
               refine hK.out _ _ ⟨(blk_cell BK1040.out 0).trans rfl, (blk_cell BK1040.out 1).trans rfl, (blk_cell BK1040.out 2).trans rfl, (blk_cell BK1040.out 3).trans rfl, (blk_cell BK1040.out 4).trans rfl, (blk_cell BK1040.out 5).trans rfl, (blk_cell BK1040.out 6).trans rfl, ((HB.out.cell (World.block_lt_of_cell? w _ hw1041_0)).trans hw1041_0), ((HB.out.cell (World.block_lt_of_cell? w _ hw1041_1)).trans hw1041_1)⟩ (fun hHeld => ?_)
               clear hK K
               refine norm_ (a' := ?_) ?_ ?_
               rotate_left
               ·show Act.put _ (some 11) _ = _
                simp only [Act.put, List.setIfInBounds_toArray, List.set_cons_zero, List.set_cons_succ, i64_w, i32_w]
                rfl
               exact norm_ (by first | (simp only [putAll, Act.put, List.setIfInBounds_toArray, List.set_cons_zero, List.set_cons_succ]; done) | (simp only [putAll, Act.put, List.setIfInBounds_toArray, List.set_cons_zero, List.set_cons_succ]; rfl)) (hJ10_11 (gb1058, gb1059) _ ⟨hHeld, (sK_ HO_1041000), (rK_ HO_1041006), (by (with_reducible repeat first | apply kr1_ | apply kr2_ | apply kr3_); exact Kd.R_mono HO_7.out (fun _ hk => hk.2)), (bK_ BK1023), (bK_ BK1024), (bK_ BK1040), (bK_ BK1058), (bK_ BK1059), GW1058.out, GE1058.out, NB1023_1058.out, NB1058_1023.out, NB1024_1058.out, NB1058_1024.out, NB1040_1058.out, NB1058_1040.out, NB1059_1058.out, NB1058_1059.out, GW1059.out, GE1059.out, NB1023_1059.out, NB1059_1023.out, NB1024_1059.out, NB1059_1024.out, NB1040_1059.out, NB1059_1040.out, (by repeat (first | (with_reducible first | exact HB.out | apply ba_ | apply bn_ | apply bd_ | refine bset_ ?_ (by assumption)) | exact HB.out))⟩)
            ·skip
             rintro ⟨v1043, v1051⟩ w30 ⟨hS_, h0_, h1_, h2_, h3_, h4_, h5_, h6_, h7_, h8_⟩
             have n0_ : Aside0 (Kd.S (Kd.slice 5 (Kd.int .u8)) 29 w30 w.heap.size (fun k_ => some k_ ≠ (.slice Ao26 x1041000_1.length co26 : Value).ownBlock) v1043 t1042) := ⟨h0_⟩
             have n1_ : Aside0 (Kd.R (Kd.int .i64) 3 w30 w.heap.size (fun k_ => some k_ ≠ (.slice Ao27 x1041006_1.length co27 : Value).ownBlock) v1051 t1050) := ⟨h1_⟩
             have n2_ : Aside0 (Kd.S (Kd.slice 5 (Kd.int .u8)) 29 w30 w.heap.size (fun k_ => some k_ ≠ (v1043 : Value).ownBlock) (.slice Ao26 x1041000_1.length co26) x1041000_1) := ⟨h2_⟩
             have n3_ : Aside0 (Kd.R (Kd.int .i64) 3 w30 w.heap.size (fun k_ => some k_ ≠ (v1051 : Value).ownBlock) (.slice Ao27 x1041006_1.length co27) x1041006_1) := ⟨h3_⟩
             have n4_ : Aside0 (Kd.R k32 32 w30 w.heap.size (fun _ => True) u7 x7_1) := ⟨h4_⟩
             have n5_ : Aside0 (w30.heap[gb1023]? = some (.cells #[.slice A0_0 l0_0.length c0_0, .int .i64 a0_1, .int .i64 a0_2, .int .i64 a0_3, .int .i64 a0_4, .int .i64 a0_5, .slice A0_6 l0_6.length c0_6] 70 (0, 0))) := ⟨h5_⟩
             have n6_ : Aside0 (w30.heap[gb1024]? = some (.cells #[.slice none 0 0, .int .i64 x1025001_1, .int .i64 x1025002_1, .int .i64 x1025003_1, .int .i64 x1025004_1, .int .i64 x1025005_1, .slice none 0 0] 70 (0, 0))) := ⟨h6_⟩
             have n7_ : Aside0 (w30.heap[gb1040]? = some (.cells #[.slice Ao26 x1041000_1.length co26, .int .i64 x1041001_1, .int .i64 x1041002_1, .int .i64 x1041003_1, .int .i64 x1041004_1, .int .i64 x1041005_1, .slice Ao27 x1041006_1.length co27] 70 (0, 0))) := ⟨h7_⟩
             have n8_ : Aside0 (Below w.heap.size w w30) := ⟨h8_⟩
             clear HO_7
             clear HO_1041000
             clear HO_1041006
             clear BK1023
             clear BK1024
             clear BK1040
             clear HB
             clear h0_ h1_ h2_ h3_ h4_ h5_ h6_ h7_ h8_
             have HO1044 := n0_
             have HO1052 := n1_
             have HO_1041000 := n2_
             have HO_1041006 := n3_
             have HO_7 := n4_
             have BK1023 := n5_
             have BK1024 := n6_
             have BK1040 := n7_
             have HB := n8_
             clear n0_ n1_ n2_ n3_ n4_ n5_ n6_ n7_ n8_
             have hHeld := hS_
             refine norm_ (a' := ?_) ?_ ?_
             rotate_left
             ·simp only [putAll, Act.put, List.setIfInBounds_toArray, List.set_cons_zero, List.set_cons_succ]
              rfl
             refine two_ (i := 10) (j := 11) (Ni := some 10) (Nj := some 11) #[true, true, true, true, true, true, true, true, true, true, true, false, false, false, false] #[true, true, true, true, true, true, true, true, true, true, false, true, false, false, false] rfl rfl rfl rfl (two_of HT_.out (by kernel_rfl)) (by decide) (by decide) (fun K hK => ?_) (fun K hK => ?_)
             ·skip
              refine box_step ?hg (N := 10) ?hd (cs := #[.slice none 0 0, .int .i64 0, .int .i64 0, .int .i64 0, .int .i64 0, .int .i64 0, .slice none 0 0]) (t := 70) ?hr ?_; (case hd => rfl); (case hg => rfl); (case hr => exact gs_)
              intro gb1058 hg w31 hbox hb
              replace HO_7 := Aside0.mk (Kd.R_below (rK_ HO_7) hb)
              replace HO_1041000 := Aside0.mk (Kd.S_below (sK_ HO_1041000) hb)
              replace HO_1041006 := Aside0.mk (Kd.R_below (rK_ HO_1041006) hb)
              replace HO1044 := Aside0.mk (Kd.S_below (sK_ HO1044) hb)
              replace HO1052 := Aside0.mk (Kd.R_below (rK_ HO1052) hb)
              have BK1058 := Aside0.mk (hbox)
              have GW1058 := gE_ HB hg
              have GE1058 := gE_ HB hg
              replace HB := Aside0.mk (below_step (by repeat (first | (with_reducible first | exact HB.out | apply ba_ | apply bn_ | apply bd_ | refine bset_ ?_ (by assumption)) | exact HB.out)) hb)
              have NB1023_1058 := nB_ BK1023 hg
              have NB1058_1023 := nA_ BK1023 hg
              replace BK1023 := bB_ BK1023 hb
              have NB1024_1058 := nB_ BK1024 hg
              have NB1058_1024 := nA_ BK1024 hg
              replace BK1024 := bB_ BK1024 hb
              have NB1040_1058 := nB_ BK1040 hg
              have NB1058_1040 := nA_ BK1040 hg
              replace BK1040 := bB_ BK1040 hb
              clear hb hbox hg
              refine hK.out _ _ ⟨(blk_cell BK1040.out 0).trans rfl, (blk_cell BK1040.out 1).trans rfl, (blk_cell BK1040.out 2).trans rfl, (blk_cell BK1040.out 3).trans rfl, (blk_cell BK1040.out 4).trans rfl, (blk_cell BK1040.out 5).trans rfl, (blk_cell BK1040.out 6).trans rfl, ((HB.out.cell (World.block_lt_of_cell? w _ hw1041_0)).trans hw1041_0), ((HB.out.cell (World.block_lt_of_cell? w _ hw1041_1)).trans hw1041_1)⟩ (fun hHeld => ?_)
              clear hK K
              refine norm_ (a' := ?_) ?_ ?_
              rotate_left
              ·show Act.put _ (some 10) _ = _
               simp only [Act.put, List.setIfInBounds_toArray, List.set_cons_zero, List.set_cons_succ, i64_w, i32_w]
               rfl
              exact norm_ (by first | (simp only [putAll, Act.put, List.setIfInBounds_toArray, List.set_cons_zero, List.set_cons_succ]; done) | (simp only [putAll, Act.put, List.setIfInBounds_toArray, List.set_cons_zero, List.set_cons_succ]; rfl)) (hJ5_10 (v1043, v1051, gb1058) _ ⟨hHeld, (sK_ HO1044), (rK_ HO1052), (sK_ HO_1041000), (rK_ HO_1041006), (rK_ HO_7), (bK_ BK1023), (bK_ BK1024), (bK_ BK1040), (bK_ BK1058), GW1058.out, GE1058.out, NB1023_1058.out, NB1058_1023.out, NB1024_1058.out, NB1058_1024.out, NB1040_1058.out, NB1058_1040.out, (by repeat (first | (with_reducible first | exact HB.out | apply ba_ | apply bn_ | apply bd_ | refine bset_ ?_ (by assumption)) | exact HB.out))⟩)
             ·skip
              refine box_step ?hg (N := 11) ?hd (cs := #[.int .i64 0, .int .i64 0, .int .i64 0, .int .i64 0]) (t := 32) ?hr ?_; (case hd => rfl); (case hg => rfl); (case hr => exact gs_)
              intro gb1059 hg w31 hbox hb
              replace HO_7 := Aside0.mk (Kd.R_below (Kd.R_elderB (rK_ HO_7) gb1059 (Nat.le_of_eq hg.symm)) hb)
              replace HO_1041000 := Aside0.mk (Kd.S_below (sK_ HO_1041000) hb)
              replace HO_1041006 := Aside0.mk (Kd.R_below (rK_ HO_1041006) hb)
              replace HO1044 := Aside0.mk (Kd.S_below (sK_ HO1044) hb)
              replace HO1052 := Aside0.mk (Kd.R_below (rK_ HO1052) hb)
              have BK1059 := Aside0.mk (hbox)
              have GW1059 := gE_ HB hg
              have GE1059 := gE_ HB hg
              replace HB := Aside0.mk (below_step (by repeat (first | (with_reducible first | exact HB.out | apply ba_ | apply bn_ | apply bd_ | refine bset_ ?_ (by assumption)) | exact HB.out)) hb)
              have NB1023_1059 := nB_ BK1023 hg
              have NB1059_1023 := nA_ BK1023 hg
              replace BK1023 := bB_ BK1023 hb
              have NB1024_1059 := nB_ BK1024 hg
              have NB1059_1024 := nA_ BK1024 hg
              replace BK1024 := bB_ BK1024 hb
              have NB1040_1059 := nB_ BK1040 hg
              have NB1059_1040 := nA_ BK1040 hg
              replace BK1040 := bB_ BK1040 hb
              clear hb hbox hg
              refine hK.out _ _ ⟨(blk_cell BK1040.out 0).trans rfl, (blk_cell BK1040.out 1).trans rfl, (blk_cell BK1040.out 2).trans rfl, (blk_cell BK1040.out 3).trans rfl, (blk_cell BK1040.out 4).trans rfl, (blk_cell BK1040.out 5).trans rfl, (blk_cell BK1040.out 6).trans rfl, ((HB.out.cell (World.block_lt_of_cell? w _ hw1041_0)).trans hw1041_0), ((HB.out.cell (World.block_lt_of_cell? w _ hw1041_1)).trans hw1041_1)⟩ (fun hHeld => ?_)
              clear hK K
              refine norm_ (a' := ?_) ?_ ?_
              rotate_left
              ·show Act.put _ (some 11) _ = _
               simp only [Act.put, List.setIfInBounds_toArray, List.set_cons_zero, List.set_cons_succ, i64_w, i32_w]
               rfl
              exact norm_ (by first | (simp only [putAll, Act.put, List.setIfInBounds_toArray, List.set_cons_zero, List.set_cons_succ]; done) | (simp only [putAll, Act.put, List.setIfInBounds_toArray, List.set_cons_zero, List.set_cons_succ]; rfl)) (hJ5_11 (v1043, v1051, gb1059) _ ⟨hHeld, (sK_ HO1044), (rK_ HO1052), (sK_ HO_1041000), (rK_ HO_1041006), (by (with_reducible repeat first | apply kr1_ | apply kr2_ | apply kr3_); exact Kd.R_mono HO_7.out (fun _ hk => hk.2)), (bK_ BK1023), (bK_ BK1024), (bK_ BK1040), (bK_ BK1059), GW1059.out, GE1059.out, NB1023_1059.out, NB1059_1023.out, NB1024_1059.out, NB1059_1024.out, NB1040_1059.out, NB1059_1040.out, (by repeat (first | (with_reducible first | exact HB.out | apply ba_ | apply bn_ | apply bd_ | refine bset_ ?_ (by assumption)) | exact HB.out))⟩)
           ·skip
            rintro ⟨gb1058, gb1059⟩ w31 ⟨hS_, h0_, h1_, h2_, h3_, h4_, h5_, h6_, h7_, h8_, h9_, h10_, h11_, h12_, h13_, h14_, h15_, h16_, h17_, h18_, h19_, h20_, h21_, h22_, h23_, h24_, h25_, h26_⟩
            have n0_ : Aside0 (Kd.S (Kd.slice 5 (Kd.int .u8)) 29 w31 w.heap.size (fun _ => True) (.slice Ao26 x1041000_1.length co26) x1041000_1) := ⟨h0_⟩
            have n1_ : Aside0 (Kd.R (Kd.int .i64) 3 w31 w.heap.size (fun _ => True) (.slice Ao27 x1041006_1.length co27) x1041006_1) := ⟨h1_⟩
            have n2_ : Aside0 (Kd.R k32 32 w31 w.heap.size (fun k_ => k_ ≠ gb1059) u7 x7_1) := ⟨h2_⟩
            have n3_ : Aside0 (w31.heap[gb1023]? = some (.cells #[.slice A0_0 l0_0.length c0_0, .int .i64 a0_1, .int .i64 a0_2, .int .i64 a0_3, .int .i64 a0_4, .int .i64 a0_5, .slice A0_6 l0_6.length c0_6] 70 (0, 0))) := ⟨h3_⟩
            have n4_ : Aside0 (w31.heap[gb1024]? = some (.cells #[.slice none 0 0, .int .i64 x1025001_1, .int .i64 x1025002_1, .int .i64 x1025003_1, .int .i64 x1025004_1, .int .i64 x1025005_1, .slice none 0 0] 70 (0, 0))) := ⟨h4_⟩
            have n5_ : Aside0 (w31.heap[gb1040]? = some (.cells #[.slice Ao26 x1041000_1.length co26, .int .i64 x1041001_1, .int .i64 x1041002_1, .int .i64 x1041003_1, .int .i64 x1041004_1, .int .i64 x1041005_1, .slice Ao27 x1041006_1.length co27] 70 (0, 0))) := ⟨h5_⟩
            have n6_ : Aside0 (w31.heap[gb1058]? = some (.cells #[.slice none 0 0, .int .i64 0, .int .i64 0, .int .i64 0, .int .i64 0, .int .i64 0, .slice none 0 0] 70 (0, 0))) := ⟨h6_⟩
            have n7_ : Aside0 (w31.heap[gb1059]? = some (.cells #[.int .i64 0, .int .i64 0, .int .i64 0, .int .i64 0] 32 (0, 0))) := ⟨h7_⟩
            have n8_ : Aside0 (w.heap.size ≤ gb1058) := ⟨h8_⟩
            have n9_ : Aside0 (w.heap.size ≤ gb1058) := ⟨h9_⟩
            have n10_ : Aside0 (gb1023 ≠ gb1058) := ⟨h10_⟩
            have n11_ : Aside0 (gb1058 ≠ gb1023) := ⟨h11_⟩
            have n12_ : Aside0 (gb1024 ≠ gb1058) := ⟨h12_⟩
            have n13_ : Aside0 (gb1058 ≠ gb1024) := ⟨h13_⟩
            have n14_ : Aside0 (gb1040 ≠ gb1058) := ⟨h14_⟩
            have n15_ : Aside0 (gb1058 ≠ gb1040) := ⟨h15_⟩
            have n16_ : Aside0 (gb1059 ≠ gb1058) := ⟨h16_⟩
            have n17_ : Aside0 (gb1058 ≠ gb1059) := ⟨h17_⟩
            have n18_ : Aside0 (w.heap.size ≤ gb1059) := ⟨h18_⟩
            have n19_ : Aside0 (w.heap.size ≤ gb1059) := ⟨h19_⟩
            have n20_ : Aside0 (gb1023 ≠ gb1059) := ⟨h20_⟩
            have n21_ : Aside0 (gb1059 ≠ gb1023) := ⟨h21_⟩
            have n22_ : Aside0 (gb1024 ≠ gb1059) := ⟨h22_⟩
            have n23_ : Aside0 (gb1059 ≠ gb1024) := ⟨h23_⟩
            have n24_ : Aside0 (gb1040 ≠ gb1059) := ⟨h24_⟩
            have n25_ : Aside0 (gb1059 ≠ gb1040) := ⟨h25_⟩
            have n26_ : Aside0 (Below w.heap.size w w31) := ⟨h26_⟩
            clear HO_7
            clear HO_1041000
            clear HO_1041006
            clear BK1023
            clear BK1024
            clear BK1040
            clear HB
            clear h0_ h1_ h2_ h3_ h4_ h5_ h6_ h7_ h8_ h9_ h10_ h11_ h12_ h13_ h14_ h15_ h16_ h17_ h18_ h19_ h20_ h21_ h22_ h23_ h24_ h25_ h26_
            have HO_1041000 := n0_
            have HO_1041006 := n1_
            have HO_7 := n2_
            have BK1023 := n3_
            have BK1024 := n4_
            have BK1040 := n5_
            have BK1058 := n6_
            have BK1059 := n7_
            have GW1058 := n8_
            have GE1058 := n9_
            have NB1023_1058 := n10_
            have NB1058_1023 := n11_
            have NB1024_1058 := n12_
            have NB1058_1024 := n13_
            have NB1040_1058 := n14_
            have NB1058_1040 := n15_
            have NB1059_1058 := n16_
            have NB1058_1059 := n17_
            have GW1059 := n18_
            have GE1059 := n19_
            have NB1023_1059 := n20_
            have NB1059_1023 := n21_
            have NB1024_1059 := n22_
            have NB1059_1024 := n23_
            have NB1040_1059 := n24_
            have NB1059_1040 := n25_
            have HB := n26_
            clear n0_ n1_ n2_ n3_ n4_ n5_ n6_ n7_ n8_ n9_ n10_ n11_ n12_ n13_ n14_ n15_ n16_ n17_ n18_ n19_ n20_ n21_ n22_ n23_ n24_ n25_ n26_
            have hHeld := hS_
            refine norm_ (a' := ?_) ?_ ?_
            rotate_left
            ·simp only [putAll, Act.put, List.setIfInBounds_toArray, List.set_cons_zero, List.set_cons_succ]
             rfl
            refine one_ (i := 5) (N := some 36) #[true, true, true, true, true, true, false, false, false, false, true, true, false, false, false] rfl rfl (one_of HT_.out (by kernel_rfl)) (by decide) (fun K hK => ?_)
            refine goes_ Try.func36 (by kernel_rfl) rfl #[.agg #[.slice Ao26 x1041000_1.length co26, .int .i64 x1041001_1, .int .i64 x1041002_1, .int .i64 x1041003_1, .int .i64 x1041004_1, .int .i64 x1041005_1, .slice Ao27 x1041006_1.length co27], .agg #[.int .i64 ((rd_T74 l1 x9_1).f0), .int .i64 ((rd_T74 l1 x9_1).f1)]] (by rfl) rfl rfl ar_ ?_
            with_reducible refine (spec_Give.calls k1 _ _ x1041000_1 x1041001_1 x1041002_1 x1041003_1 x1041004_1 x1041005_1 _ _ x1041006_1 ((rd_T74 l1 x9_1).f0) ((rd_T74 l1 x9_1).f1) t1042 t1045 t1046 t1047 t1048 t1049 t1050 t1053 t1054 t1055 t1056 true _ ?side1 ?side2 ?side3 ?side4 A23.out).mono ?_
            (case side1 => repeat (first | exact (Kd.S_reads' HO_1041000.out).2.2 | (with_reducible refine Kd.C_alloc ?_ _) | (with_reducible refine Kd.C_drewN ?_ _) | (with_reducible refine Kd.C_drew ?_)))
            (case side2 => exact (Kd.S_reads' HO_1041000.out).2.1)
            (case side3 => repeat (first | exact (Kd.R_reads' HO_1041006.out).2.2 | (with_reducible refine Kd.C_alloc ?_ _) | (with_reducible refine Kd.C_drewN ?_ _) | (with_reducible refine Kd.C_drew ?_)))
            (case side4 => exact (Kd.R_reads' HO_1041006.out).2.1)
            rintro e w32 ⟨v1043, v1051, rfl, ho0, ho1, hb⟩
            refine ⟨_, rfl, ?_⟩
            replace HO_7 := Aside0.mk (Kd.R_below (rK_ HO_7) hb)
            have HO1044 := Aside0.mk (sL_ (Kd.S_new' ho0 (Kd.S_lt (sK_ HO_1041000))) HB)
            replace HO_1041000 := Aside0.mk (Kd.S_elder' (sK_ HO_1041000) (Kd.S_base ho0) hb)
            have HO1052 := Aside0.mk (rL_ (Kd.R_new' ho1 (Kd.R_lt (rK_ HO_1041006))) HB)
            replace HO_1041006 := Aside0.mk (Kd.R_elder' (rK_ HO_1041006) (Kd.R_base ho1) hb)
            replace BK1023 := bB_ BK1023 hb
            replace BK1024 := bB_ BK1024 hb
            replace BK1040 := bB_ BK1040 hb
            replace BK1058 := bB_ BK1058 hb
            replace BK1059 := bB_ BK1059 hb
            replace HB := Aside0.mk (below_step (by repeat (first | (with_reducible first | exact HB.out | apply ba_ | apply bn_ | apply bd_ | refine bset_ ?_ (by assumption)) | exact HB.out)) hb)
            (try clear hb)
            (try clear hb2)
            (try clear hk)
            (try clear hi)
            (try clear ho0)
            (try clear ho1)
            refine hK.out _ _ ⟨(blk_cell BK1040.out 0).trans rfl, (blk_cell BK1040.out 1).trans rfl, (blk_cell BK1040.out 2).trans rfl, (blk_cell BK1040.out 3).trans rfl, (blk_cell BK1040.out 4).trans rfl, (blk_cell BK1040.out 5).trans rfl, (blk_cell BK1040.out 6).trans rfl, ((HB.out.cell (World.block_lt_of_cell? w _ hw1041_0)).trans hw1041_0), ((HB.out.cell (World.block_lt_of_cell? w _ hw1041_1)).trans hw1041_1)⟩ (fun hHeld => ?_)
            clear hK K
            refine norm_ (a' := ?_) ?_ ?_
            rotate_left
            ·show Act.put _ (some 36) _ = _
             simp only [Act.put, List.setIfInBounds_toArray, List.set_cons_zero, List.set_cons_succ, i64_w, i32_w]
             rfl
            refine pure_ (i := 6) (N := some 30) (v := ?_) (a' := ?_) #[true, true, true, true, true, true, true, false, false, false, true, true, false, false, false] rfl rfl (any_of HT_.out (by kernel_rfl)) (fun _ _ _ h => h) (Or.inl ⟨by rfl, ?_⟩) ?_ ?_
            rotate_left
            ·intro w'
             go_simp
             with_reducible rfl
            rotate_left
            ·simp only [Act.put, List.setIfInBounds_toArray, List.set_cons_zero, List.set_cons_succ, i64_w, i32_w]
             rfl
            refine pure_ (i := 7) (N := some 37) (v := ?_) (a' := ?_) #[true, true, true, true, true, true, true, true, false, false, true, true, false, false, false] rfl rfl (any_of HT_.out (by kernel_rfl)) (fun _ _ _ h => h) (Or.inl ⟨by rfl, ?_⟩) ?_ ?_
            rotate_left
            ·intro w'
             go_simp
             with_reducible rfl
            rotate_left
            ·simp only [Act.put, List.setIfInBounds_toArray, List.set_cons_zero, List.set_cons_succ, i64_w, i32_w]
             rfl
            refine pure_ (i := 8) (N := some 38) (v := ?_) (a' := ?_) #[true, true, true, true, true, true, true, true, true, false, true, true, false, false, false] rfl rfl (any_of HT_.out (by kernel_rfl)) (fun _ _ _ h => h) (Or.inl ⟨by rfl, ?_⟩) ?_ ?_
            rotate_left
            ·intro w'
             go_simp
             with_reducible rfl
            rotate_left
            ·simp only [Act.put, List.setIfInBounds_toArray, List.set_cons_zero, List.set_cons_succ, i64_w, i32_w]
             rfl
            refine pure_ (i := 9) (N := some 39) (v := ?_) (a' := ?_) #[true, true, true, true, true, true, true, true, true, true, true, true, false, false, false] rfl rfl (any_of HT_.out (by kernel_rfl)) (fun _ _ _ h => h) (Or.inl ⟨by rfl, ?_⟩) ?_ ?_
            rotate_left
            ·intro w'
             go_simp
             with_reducible rfl
            rotate_left
            ·simp only [Act.put, List.setIfInBounds_toArray, List.set_cons_zero, List.set_cons_succ, i64_w, i32_w]
             rfl
            exact norm_ (by first | (simp only [putAll, Act.put, List.setIfInBounds_toArray, List.set_cons_zero, List.set_cons_succ]; done) | (simp only [putAll, Act.put, List.setIfInBounds_toArray, List.set_cons_zero, List.set_cons_succ]; rfl)) (hJ5_10_11 (v1043, v1051, gb1058, gb1059) _ ⟨hHeld, (by (with_reducible repeat first | apply ks1_ | apply ks2_ | apply ks3_); exact Kd.S_mono HO1044.out (fun _ hk => hk.2)), (by (with_reducible repeat first | apply kr1_ | apply kr2_ | apply kr3_); exact Kd.R_mono HO1052.out (fun _ hk => hk.2)), (by (with_reducible repeat first | apply ks1_ | apply ks2_ | apply ks3_); exact Kd.S_mono HO_1041000.out (fun _ hk => hk.2)), (by (with_reducible repeat first | apply kr1_ | apply kr2_ | apply kr3_); exact Kd.R_mono HO_1041006.out (fun _ hk => hk.2)), (rK_ HO_7), (bK_ BK1023), (bK_ BK1024), (bK_ BK1040), (bK_ BK1058), (bK_ BK1059), GW1058.out, GE1058.out, NB1023_1058.out, NB1058_1023.out, NB1024_1058.out, NB1058_1024.out, NB1040_1058.out, NB1058_1040.out, NB1059_1058.out, NB1058_1059.out, GW1059.out, GE1059.out, NB1023_1059.out, NB1059_1023.out, NB1024_1059.out, NB1059_1024.out, NB1040_1059.out, NB1059_1040.out, (by repeat (first | (with_reducible first | exact HB.out | apply ba_ | apply bn_ | apply bd_ | refine bset_ ?_ (by assumption)) | exact HB.out))⟩)
          ·skip
           rintro ⟨v1043, v1051, gb1059⟩ w31 ⟨hS_, h0_, h1_, h2_, h3_, h4_, h5_, h6_, h7_, h8_, h9_, h10_, h11_, h12_, h13_, h14_, h15_, h16_, h17_⟩
           have n0_ : Aside0 (Kd.S (Kd.slice 5 (Kd.int .u8)) 29 w31 w.heap.size (fun k_ => some k_ ≠ (.slice Ao26 x1041000_1.length co26 : Value).ownBlock) v1043 t1042) := ⟨h0_⟩
           have n1_ : Aside0 (Kd.R (Kd.int .i64) 3 w31 w.heap.size (fun k_ => some k_ ≠ (.slice Ao27 x1041006_1.length co27 : Value).ownBlock) v1051 t1050) := ⟨h1_⟩
           have n2_ : Aside0 (Kd.S (Kd.slice 5 (Kd.int .u8)) 29 w31 w.heap.size (fun k_ => some k_ ≠ (v1043 : Value).ownBlock) (.slice Ao26 x1041000_1.length co26) x1041000_1) := ⟨h2_⟩
           have n3_ : Aside0 (Kd.R (Kd.int .i64) 3 w31 w.heap.size (fun k_ => some k_ ≠ (v1051 : Value).ownBlock) (.slice Ao27 x1041006_1.length co27) x1041006_1) := ⟨h3_⟩
           have n4_ : Aside0 (Kd.R k32 32 w31 w.heap.size (fun k_ => k_ ≠ gb1059) u7 x7_1) := ⟨h4_⟩
           have n5_ : Aside0 (w31.heap[gb1023]? = some (.cells #[.slice A0_0 l0_0.length c0_0, .int .i64 a0_1, .int .i64 a0_2, .int .i64 a0_3, .int .i64 a0_4, .int .i64 a0_5, .slice A0_6 l0_6.length c0_6] 70 (0, 0))) := ⟨h5_⟩
           have n6_ : Aside0 (w31.heap[gb1024]? = some (.cells #[.slice none 0 0, .int .i64 x1025001_1, .int .i64 x1025002_1, .int .i64 x1025003_1, .int .i64 x1025004_1, .int .i64 x1025005_1, .slice none 0 0] 70 (0, 0))) := ⟨h6_⟩
           have n7_ : Aside0 (w31.heap[gb1040]? = some (.cells #[.slice Ao26 x1041000_1.length co26, .int .i64 x1041001_1, .int .i64 x1041002_1, .int .i64 x1041003_1, .int .i64 x1041004_1, .int .i64 x1041005_1, .slice Ao27 x1041006_1.length co27] 70 (0, 0))) := ⟨h7_⟩
           have n8_ : Aside0 (w31.heap[gb1059]? = some (.cells #[.int .i64 0, .int .i64 0, .int .i64 0, .int .i64 0] 32 (0, 0))) := ⟨h8_⟩
           have n9_ : Aside0 (w.heap.size ≤ gb1059) := ⟨h9_⟩
           have n10_ : Aside0 (w.heap.size ≤ gb1059) := ⟨h10_⟩
           have n11_ : Aside0 (gb1023 ≠ gb1059) := ⟨h11_⟩
           have n12_ : Aside0 (gb1059 ≠ gb1023) := ⟨h12_⟩
           have n13_ : Aside0 (gb1024 ≠ gb1059) := ⟨h13_⟩
           have n14_ : Aside0 (gb1059 ≠ gb1024) := ⟨h14_⟩
           have n15_ : Aside0 (gb1040 ≠ gb1059) := ⟨h15_⟩
           have n16_ : Aside0 (gb1059 ≠ gb1040) := ⟨h16_⟩
           have n17_ : Aside0 (Below w.heap.size w w31) := ⟨h17_⟩
           clear HO_7
           clear HO_1041000
           clear HO_1041006
           clear BK1023
           clear BK1024
           clear BK1040
           clear HB
           clear h0_ h1_ h2_ h3_ h4_ h5_ h6_ h7_ h8_ h9_ h10_ h11_ h12_ h13_ h14_ h15_ h16_ h17_
           have HO1044 := n0_
           have HO1052 := n1_
           have HO_1041000 := n2_
           have HO_1041006 := n3_
           have HO_7 := n4_
           have BK1023 := n5_
           have BK1024 := n6_
           have BK1040 := n7_
           have BK1059 := n8_
           have GW1059 := n9_
           have GE1059 := n10_
           have NB1023_1059 := n11_
           have NB1059_1023 := n12_
           have NB1024_1059 := n13_
           have NB1059_1024 := n14_
           have NB1040_1059 := n15_
           have NB1059_1040 := n16_
           have HB := n17_
           clear n0_ n1_ n2_ n3_ n4_ n5_ n6_ n7_ n8_ n9_ n10_ n11_ n12_ n13_ n14_ n15_ n16_ n17_
           have hHeld := hS_
           refine norm_ (a' := ?_) ?_ ?_
           rotate_left
           ·simp only [putAll, Act.put, List.setIfInBounds_toArray, List.set_cons_zero, List.set_cons_succ]
            rfl
           refine one_ (i := 10) (N := some 10) #[true, true, true, true, true, true, true, true, true, true, true, true, false, false, false] rfl rfl (one_of HT_.out (by kernel_rfl)) (by decide) (fun K hK => ?_)
           refine box_step ?hg (N := 10) ?hd (cs := #[.slice none 0 0, .int .i64 0, .int .i64 0, .int .i64 0, .int .i64 0, .int .i64 0, .slice none 0 0]) (t := 70) ?hr ?_; (case hd => rfl); (case hg => rfl); (case hr => exact gs_)
           intro gb1058 hg w32 hbox hb
           replace HO_7 := Aside0.mk (Kd.R_below (rK_ HO_7) hb)
           replace HO_1041000 := Aside0.mk (Kd.S_below (sK_ HO_1041000) hb)
           replace HO_1041006 := Aside0.mk (Kd.R_below (rK_ HO_1041006) hb)
           replace HO1044 := Aside0.mk (Kd.S_below (sK_ HO1044) hb)
           replace HO1052 := Aside0.mk (Kd.R_below (rK_ HO1052) hb)
           have BK1058 := Aside0.mk (hbox)
           have GW1058 := gE_ HB hg
           have GE1058 := gE_ HB hg
           replace HB := Aside0.mk (below_step (by repeat (first | (with_reducible first | exact HB.out | apply ba_ | apply bn_ | apply bd_ | refine bset_ ?_ (by assumption)) | exact HB.out)) hb)
           have NB1023_1058 := nB_ BK1023 hg
           have NB1058_1023 := nA_ BK1023 hg
           replace BK1023 := bB_ BK1023 hb
           have NB1024_1058 := nB_ BK1024 hg
           have NB1058_1024 := nA_ BK1024 hg
           replace BK1024 := bB_ BK1024 hb
           have NB1040_1058 := nB_ BK1040 hg
           have NB1058_1040 := nA_ BK1040 hg
           replace BK1040 := bB_ BK1040 hb
           have NB1059_1058 := nB_ BK1059 hg
           have NB1058_1059 := nA_ BK1059 hg
           replace BK1059 := bB_ BK1059 hb
           clear hb hbox hg
           refine hK.out _ _ ⟨(blk_cell BK1040.out 0).trans rfl, (blk_cell BK1040.out 1).trans rfl, (blk_cell BK1040.out 2).trans rfl, (blk_cell BK1040.out 3).trans rfl, (blk_cell BK1040.out 4).trans rfl, (blk_cell BK1040.out 5).trans rfl, (blk_cell BK1040.out 6).trans rfl, ((HB.out.cell (World.block_lt_of_cell? w _ hw1041_0)).trans hw1041_0), ((HB.out.cell (World.block_lt_of_cell? w _ hw1041_1)).trans hw1041_1)⟩ (fun hHeld => ?_)
           clear hK K
           refine norm_ (a' := ?_) ?_ ?_
           rotate_left
           ·show Act.put _ (some 10) _ = _
            simp only [Act.put, List.setIfInBounds_toArray, List.set_cons_zero, List.set_cons_succ, i64_w, i32_w]
            rfl
           exact norm_ (by first | (simp only [putAll, Act.put, List.setIfInBounds_toArray, List.set_cons_zero, List.set_cons_succ]; done) | (simp only [putAll, Act.put, List.setIfInBounds_toArray, List.set_cons_zero, List.set_cons_succ]; rfl)) (hJ5_10_11 (v1043, v1051, gb1058, gb1059) _ ⟨hHeld, (sK_ HO1044), (rK_ HO1052), (sK_ HO_1041000), (rK_ HO_1041006), (rK_ HO_7), (bK_ BK1023), (bK_ BK1024), (bK_ BK1040), (bK_ BK1058), (bK_ BK1059), GW1058.out, GE1058.out, NB1023_1058.out, NB1058_1023.out, NB1024_1058.out, NB1058_1024.out, NB1040_1058.out, NB1058_1040.out, NB1059_1058.out, NB1058_1059.out, GW1059.out, GE1059.out, NB1023_1059.out, NB1059_1023.out, NB1024_1059.out, NB1059_1024.out, NB1040_1059.out, NB1059_1040.out, (by repeat (first | (with_reducible first | exact HB.out | apply ba_ | apply bn_ | apply bd_ | refine bset_ ?_ (by assumption)) | exact HB.out))⟩)
         ·skip
          rintro ⟨v1043, v1051, gb1058⟩ w31 ⟨hS_, h0_, h1_, h2_, h3_, h4_, h5_, h6_, h7_, h8_, h9_, h10_, h11_, h12_, h13_, h14_, h15_, h16_, h17_⟩
          have n0_ : Aside0 (Kd.S (Kd.slice 5 (Kd.int .u8)) 29 w31 w.heap.size (fun k_ => some k_ ≠ (.slice Ao26 x1041000_1.length co26 : Value).ownBlock) v1043 t1042) := ⟨h0_⟩
          have n1_ : Aside0 (Kd.R (Kd.int .i64) 3 w31 w.heap.size (fun k_ => some k_ ≠ (.slice Ao27 x1041006_1.length co27 : Value).ownBlock) v1051 t1050) := ⟨h1_⟩
          have n2_ : Aside0 (Kd.S (Kd.slice 5 (Kd.int .u8)) 29 w31 w.heap.size (fun k_ => some k_ ≠ (v1043 : Value).ownBlock) (.slice Ao26 x1041000_1.length co26) x1041000_1) := ⟨h2_⟩
          have n3_ : Aside0 (Kd.R (Kd.int .i64) 3 w31 w.heap.size (fun k_ => some k_ ≠ (v1051 : Value).ownBlock) (.slice Ao27 x1041006_1.length co27) x1041006_1) := ⟨h3_⟩
          have n4_ : Aside0 (Kd.R k32 32 w31 w.heap.size (fun _ => True) u7 x7_1) := ⟨h4_⟩
          have n5_ : Aside0 (w31.heap[gb1023]? = some (.cells #[.slice A0_0 l0_0.length c0_0, .int .i64 a0_1, .int .i64 a0_2, .int .i64 a0_3, .int .i64 a0_4, .int .i64 a0_5, .slice A0_6 l0_6.length c0_6] 70 (0, 0))) := ⟨h5_⟩
          have n6_ : Aside0 (w31.heap[gb1024]? = some (.cells #[.slice none 0 0, .int .i64 x1025001_1, .int .i64 x1025002_1, .int .i64 x1025003_1, .int .i64 x1025004_1, .int .i64 x1025005_1, .slice none 0 0] 70 (0, 0))) := ⟨h6_⟩
          have n7_ : Aside0 (w31.heap[gb1040]? = some (.cells #[.slice Ao26 x1041000_1.length co26, .int .i64 x1041001_1, .int .i64 x1041002_1, .int .i64 x1041003_1, .int .i64 x1041004_1, .int .i64 x1041005_1, .slice Ao27 x1041006_1.length co27] 70 (0, 0))) := ⟨h7_⟩
          have n8_ : Aside0 (w31.heap[gb1058]? = some (.cells #[.slice none 0 0, .int .i64 0, .int .i64 0, .int .i64 0, .int .i64 0, .int .i64 0, .slice none 0 0] 70 (0, 0))) := ⟨h8_⟩
          have n9_ : Aside0 (w.heap.size ≤ gb1058) := ⟨h9_⟩
          have n10_ : Aside0 (w.heap.size ≤ gb1058) := ⟨h10_⟩
          have n11_ : Aside0 (gb1023 ≠ gb1058) := ⟨h11_⟩
          have n12_ : Aside0 (gb1058 ≠ gb1023) := ⟨h12_⟩
          have n13_ : Aside0 (gb1024 ≠ gb1058) := ⟨h13_⟩
          have n14_ : Aside0 (gb1058 ≠ gb1024) := ⟨h14_⟩
          have n15_ : Aside0 (gb1040 ≠ gb1058) := ⟨h15_⟩
          have n16_ : Aside0 (gb1058 ≠ gb1040) := ⟨h16_⟩
          have n17_ : Aside0 (Below w.heap.size w w31) := ⟨h17_⟩
          clear HO_7
          clear HO_1041000
          clear HO_1041006
          clear BK1023
          clear BK1024
          clear BK1040
          clear HB
          clear h0_ h1_ h2_ h3_ h4_ h5_ h6_ h7_ h8_ h9_ h10_ h11_ h12_ h13_ h14_ h15_ h16_ h17_
          have HO1044 := n0_
          have HO1052 := n1_
          have HO_1041000 := n2_
          have HO_1041006 := n3_
          have HO_7 := n4_
          have BK1023 := n5_
          have BK1024 := n6_
          have BK1040 := n7_
          have BK1058 := n8_
          have GW1058 := n9_
          have GE1058 := n10_
          have NB1023_1058 := n11_
          have NB1058_1023 := n12_
          have NB1024_1058 := n13_
          have NB1058_1024 := n14_
          have NB1040_1058 := n15_
          have NB1058_1040 := n16_
          have HB := n17_
          clear n0_ n1_ n2_ n3_ n4_ n5_ n6_ n7_ n8_ n9_ n10_ n11_ n12_ n13_ n14_ n15_ n16_ n17_
          have hHeld := hS_
          refine norm_ (a' := ?_) ?_ ?_
          rotate_left
          ·simp only [putAll, Act.put, List.setIfInBounds_toArray, List.set_cons_zero, List.set_cons_succ]
           rfl
          refine one_ (i := 11) (N := some 11) #[true, true, true, true, true, true, true, true, true, true, true, true, false, false, false] rfl rfl (one_of HT_.out (by kernel_rfl)) (by decide) (fun K hK => ?_)
          refine box_step ?hg (N := 11) ?hd (cs := #[.int .i64 0, .int .i64 0, .int .i64 0, .int .i64 0]) (t := 32) ?hr ?_; (case hd => rfl); (case hg => rfl); (case hr => exact gs_)
          intro gb1059 hg w32 hbox hb
          replace HO_7 := Aside0.mk (Kd.R_below (Kd.R_elderB (rK_ HO_7) gb1059 (Nat.le_of_eq hg.symm)) hb)
          replace HO_1041000 := Aside0.mk (Kd.S_below (sK_ HO_1041000) hb)
          replace HO_1041006 := Aside0.mk (Kd.R_below (rK_ HO_1041006) hb)
          replace HO1044 := Aside0.mk (Kd.S_below (sK_ HO1044) hb)
          replace HO1052 := Aside0.mk (Kd.R_below (rK_ HO1052) hb)
          have BK1059 := Aside0.mk (hbox)
          have GW1059 := gE_ HB hg
          have GE1059 := gE_ HB hg
          replace HB := Aside0.mk (below_step (by repeat (first | (with_reducible first | exact HB.out | apply ba_ | apply bn_ | apply bd_ | refine bset_ ?_ (by assumption)) | exact HB.out)) hb)
          have NB1023_1059 := nB_ BK1023 hg
          have NB1059_1023 := nA_ BK1023 hg
          replace BK1023 := bB_ BK1023 hb
          have NB1024_1059 := nB_ BK1024 hg
          have NB1059_1024 := nA_ BK1024 hg
          replace BK1024 := bB_ BK1024 hb
          have NB1040_1059 := nB_ BK1040 hg
          have NB1059_1040 := nA_ BK1040 hg
          replace BK1040 := bB_ BK1040 hb
          have NB1058_1059 := nB_ BK1058 hg
          have NB1059_1058 := nA_ BK1058 hg
          replace BK1058 := bB_ BK1058 hb
          clear hb hbox hg
          refine hK.out _ _ ⟨(blk_cell BK1040.out 0).trans rfl, (blk_cell BK1040.out 1).trans rfl, (blk_cell BK1040.out 2).trans rfl, (blk_cell BK1040.out 3).trans rfl, (blk_cell BK1040.out 4).trans rfl, (blk_cell BK1040.out 5).trans rfl, (blk_cell BK1040.out 6).trans rfl, ((HB.out.cell (World.block_lt_of_cell? w _ hw1041_0)).trans hw1041_0), ((HB.out.cell (World.block_lt_of_cell? w _ hw1041_1)).trans hw1041_1)⟩ (fun hHeld => ?_)
          clear hK K
          refine norm_ (a' := ?_) ?_ ?_
          rotate_left
          ·show Act.put _ (some 11) _ = _
           simp only [Act.put, List.setIfInBounds_toArray, List.set_cons_zero, List.set_cons_succ, i64_w, i32_w]
           rfl
          exact norm_ (by first | (simp only [putAll, Act.put, List.setIfInBounds_toArray, List.set_cons_zero, List.set_cons_succ]; done) | (simp only [putAll, Act.put, List.setIfInBounds_toArray, List.set_cons_zero, List.set_cons_succ]; rfl)) (hJ5_10_11 (v1043, v1051, gb1058, gb1059) _ ⟨hHeld, (sK_ HO1044), (rK_ HO1052), (sK_ HO_1041000), (rK_ HO_1041006), (by (with_reducible repeat first | apply kr1_ | apply kr2_ | apply kr3_); exact Kd.R_mono HO_7.out (fun _ hk => hk.2)), (bK_ BK1023), (bK_ BK1024), (bK_ BK1040), (bK_ BK1058), (bK_ BK1059), GW1058.out, GE1058.out, NB1023_1058.out, NB1058_1023.out, NB1024_1058.out, NB1058_1024.out, NB1040_1058.out, NB1058_1040.out, NB1059_1058.out, NB1058_1059.out, GW1059.out, GE1059.out, NB1023_1059.out, NB1059_1023.out, NB1024_1059.out, NB1059_1024.out, NB1040_1059.out, NB1059_1040.out, (by repeat (first | (with_reducible first | exact HB.out | apply ba_ | apply bn_ | apply bd_ | refine bset_ ?_ (by assumption)) | exact HB.out))⟩)
        rintro ⟨v1043, v1051, gb1058, gb1059⟩ w32 ⟨hS_, h0_, h1_, h2_, h3_, h4_, h5_, h6_, h7_, h8_, h9_, h10_, h11_, h12_, h13_, h14_, h15_, h16_, h17_, h18_, h19_, h20_, h21_, h22_, h23_, h24_, h25_, h26_, h27_, h28_⟩
        have n0_ : Aside0 (Kd.S (Kd.slice 5 (Kd.int .u8)) 29 w32 w.heap.size (fun k_ => some k_ ≠ (.slice Ao26 x1041000_1.length co26 : Value).ownBlock) v1043 t1042) := ⟨h0_⟩
        have n1_ : Aside0 (Kd.R (Kd.int .i64) 3 w32 w.heap.size (fun k_ => some k_ ≠ (.slice Ao27 x1041006_1.length co27 : Value).ownBlock) v1051 t1050) := ⟨h1_⟩
        have n2_ : Aside0 (Kd.S (Kd.slice 5 (Kd.int .u8)) 29 w32 w.heap.size (fun k_ => some k_ ≠ (v1043 : Value).ownBlock) (.slice Ao26 x1041000_1.length co26) x1041000_1) := ⟨h2_⟩
        have n3_ : Aside0 (Kd.R (Kd.int .i64) 3 w32 w.heap.size (fun k_ => some k_ ≠ (v1051 : Value).ownBlock) (.slice Ao27 x1041006_1.length co27) x1041006_1) := ⟨h3_⟩
        have n4_ : Aside0 (Kd.R k32 32 w32 w.heap.size (fun k_ => k_ ≠ gb1059) u7 x7_1) := ⟨h4_⟩
        have n5_ : Aside0 (w32.heap[gb1023]? = some (.cells #[.slice A0_0 l0_0.length c0_0, .int .i64 a0_1, .int .i64 a0_2, .int .i64 a0_3, .int .i64 a0_4, .int .i64 a0_5, .slice A0_6 l0_6.length c0_6] 70 (0, 0))) := ⟨h5_⟩
        have n6_ : Aside0 (w32.heap[gb1024]? = some (.cells #[.slice none 0 0, .int .i64 x1025001_1, .int .i64 x1025002_1, .int .i64 x1025003_1, .int .i64 x1025004_1, .int .i64 x1025005_1, .slice none 0 0] 70 (0, 0))) := ⟨h6_⟩
        have n7_ : Aside0 (w32.heap[gb1040]? = some (.cells #[.slice Ao26 x1041000_1.length co26, .int .i64 x1041001_1, .int .i64 x1041002_1, .int .i64 x1041003_1, .int .i64 x1041004_1, .int .i64 x1041005_1, .slice Ao27 x1041006_1.length co27] 70 (0, 0))) := ⟨h7_⟩
        have n8_ : Aside0 (w32.heap[gb1058]? = some (.cells #[.slice none 0 0, .int .i64 0, .int .i64 0, .int .i64 0, .int .i64 0, .int .i64 0, .slice none 0 0] 70 (0, 0))) := ⟨h8_⟩
        have n9_ : Aside0 (w32.heap[gb1059]? = some (.cells #[.int .i64 0, .int .i64 0, .int .i64 0, .int .i64 0] 32 (0, 0))) := ⟨h9_⟩
        have n10_ : Aside0 (w.heap.size ≤ gb1058) := ⟨h10_⟩
        have n11_ : Aside0 (w.heap.size ≤ gb1058) := ⟨h11_⟩
        have n12_ : Aside0 (gb1023 ≠ gb1058) := ⟨h12_⟩
        have n13_ : Aside0 (gb1058 ≠ gb1023) := ⟨h13_⟩
        have n14_ : Aside0 (gb1024 ≠ gb1058) := ⟨h14_⟩
        have n15_ : Aside0 (gb1058 ≠ gb1024) := ⟨h15_⟩
        have n16_ : Aside0 (gb1040 ≠ gb1058) := ⟨h16_⟩
        have n17_ : Aside0 (gb1058 ≠ gb1040) := ⟨h17_⟩
        have n18_ : Aside0 (gb1059 ≠ gb1058) := ⟨h18_⟩
        have n19_ : Aside0 (gb1058 ≠ gb1059) := ⟨h19_⟩
        have n20_ : Aside0 (w.heap.size ≤ gb1059) := ⟨h20_⟩
        have n21_ : Aside0 (w.heap.size ≤ gb1059) := ⟨h21_⟩
        have n22_ : Aside0 (gb1023 ≠ gb1059) := ⟨h22_⟩
        have n23_ : Aside0 (gb1059 ≠ gb1023) := ⟨h23_⟩
        have n24_ : Aside0 (gb1024 ≠ gb1059) := ⟨h24_⟩
        have n25_ : Aside0 (gb1059 ≠ gb1024) := ⟨h25_⟩
        have n26_ : Aside0 (gb1040 ≠ gb1059) := ⟨h26_⟩
        have n27_ : Aside0 (gb1059 ≠ gb1040) := ⟨h27_⟩
        have n28_ : Aside0 (Below w.heap.size w w32) := ⟨h28_⟩
        clear HO_7
        clear HO_1041000
        clear HO_1041006
        clear BK1023
        clear BK1024
        clear BK1040
        clear HB
        clear h0_ h1_ h2_ h3_ h4_ h5_ h6_ h7_ h8_ h9_ h10_ h11_ h12_ h13_ h14_ h15_ h16_ h17_ h18_ h19_ h20_ h21_ h22_ h23_ h24_ h25_ h26_ h27_ h28_
        have HO1044 := n0_
        have HO1052 := n1_
        have HO_1041000 := n2_
        have HO_1041006 := n3_
        have HO_7 := n4_
        have BK1023 := n5_
        have BK1024 := n6_
        have BK1040 := n7_
        have BK1058 := n8_
        have BK1059 := n9_
        have GW1058 := n10_
        have GE1058 := n11_
        have NB1023_1058 := n12_
        have NB1058_1023 := n13_
        have NB1024_1058 := n14_
        have NB1058_1024 := n15_
        have NB1040_1058 := n16_
        have NB1058_1040 := n17_
        have NB1059_1058 := n18_
        have NB1058_1059 := n19_
        have GW1059 := n20_
        have GE1059 := n21_
        have NB1023_1059 := n22_
        have NB1059_1023 := n23_
        have NB1024_1059 := n24_
        have NB1059_1024 := n25_
        have NB1040_1059 := n26_
        have NB1059_1040 := n27_
        have HB := n28_
        clear n0_ n1_ n2_ n3_ n4_ n5_ n6_ n7_ n8_ n9_ n10_ n11_ n12_ n13_ n14_ n15_ n16_ n17_ n18_ n19_ n20_ n21_ n22_ n23_ n24_ n25_ n26_ n27_ n28_
        have hHeld := hS_
        obtain ⟨Ao33, co33, eo33⟩ := Kd.S_slice HO1044.out
        (first | subst eo33 | (injection eo33 with f1_ f2_ f3_; have f4_ := f1_.symm; have f5_ := f3_.symm; clear f1_ f2_ f3_; subst f4_; subst f5_))
        obtain ⟨Ao40, co40, eo40⟩ := Kd.R_slice HO1052.out
        (first | subst eo40 | (injection eo40 with f1_ f2_ f3_; have f4_ := f1_.symm; have f5_ := f3_.symm; clear f1_ f2_ f3_; subst f4_; subst f5_))
        refine norm_ (a' := ?_) ?_ ?_
        rotate_left
        ·simp only [putAll, Act.put, List.setIfInBounds_toArray, List.set_cons_zero, List.set_cons_succ]
         rfl
        refine one_ (i := 12) (N := none) #[true, true, true, true, true, true, true, true, true, true, true, true, true, false, false] rfl rfl (one_of HT_.out (by kernel_rfl)) (by decide) (fun K hK => ?_)
        have hs34 : w32.cell? ⟨gb1058, 0, none⟩ = some (.slice none 0 0) := (blk_cell BK1058.out 0).trans rfl
        have hfs34 := blk_frozen BK1058.out 0
        have hns34_0 := NB1023_1058.out
        have hns34_1 := NB1024_1058.out
        have hns34_2 := NB1040_1058.out
        have hns34_4 := NB1059_1058.out
        have hms34_0 := NB1058_1023.out
        have hms34_1 := NB1058_1024.out
        have hms34_2 := NB1058_1040.out
        have hms34_4 := NB1058_1059.out
        have hs35 : w32.cell? ⟨gb1058, 1, none⟩ = some (.int .i64 0) := (blk_cell BK1058.out 1).trans rfl
        have hfs35 := blk_frozen BK1058.out 1
        have hs36 : w32.cell? ⟨gb1058, 2, none⟩ = some (.int .i64 0) := (blk_cell BK1058.out 2).trans rfl
        have hfs36 := blk_frozen BK1058.out 2
        have hs37 : w32.cell? ⟨gb1058, 3, none⟩ = some (.int .i64 0) := (blk_cell BK1058.out 3).trans rfl
        have hfs37 := blk_frozen BK1058.out 3
        have hs38 : w32.cell? ⟨gb1058, 4, none⟩ = some (.int .i64 0) := (blk_cell BK1058.out 4).trans rfl
        have hfs38 := blk_frozen BK1058.out 4
        have hs39 : w32.cell? ⟨gb1058, 5, none⟩ = some (.int .i64 0) := (blk_cell BK1058.out 5).trans rfl
        have hfs39 := blk_frozen BK1058.out 5
        have hs41 : w32.cell? ⟨gb1058, 6, none⟩ = some (.slice none 0 0) := (blk_cell BK1058.out 6).trans rfl
        have hfs41 := blk_frozen BK1058.out 6
        refine skip_ (w1 := ?_) (by rfl) rfl ?_ ?_
        rotate_left
        ·go_simp
         rfl
        refine hK.out _ _ ⟨(by (with_reducible repeat (refine (cell_far (p := ⟨gb1058, _, none⟩) NB1040_1058.out _).trans ?_)); exact hHeld.1), (by (with_reducible repeat (refine (cell_far (p := ⟨gb1058, _, none⟩) NB1040_1058.out _).trans ?_)); exact hHeld.2.1), (by (with_reducible repeat (refine (cell_far (p := ⟨gb1058, _, none⟩) NB1040_1058.out _).trans ?_)); exact hHeld.2.2.1), (by (with_reducible repeat (refine (cell_far (p := ⟨gb1058, _, none⟩) NB1040_1058.out _).trans ?_)); exact hHeld.2.2.2.1), (by (with_reducible repeat (refine (cell_far (p := ⟨gb1058, _, none⟩) NB1040_1058.out _).trans ?_)); exact hHeld.2.2.2.2.1), (by (with_reducible repeat (refine (cell_far (p := ⟨gb1058, _, none⟩) NB1040_1058.out _).trans ?_)); exact hHeld.2.2.2.2.2.1), (by (with_reducible repeat (refine (cell_far (p := ⟨gb1058, _, none⟩) NB1040_1058.out _).trans ?_)); exact hHeld.2.2.2.2.2.2.1), (by (with_reducible repeat (refine (cell_far (p := ⟨gb1058, _, none⟩) (by first | exact Nat.ne_of_lt (Nat.lt_of_lt_of_le (by have := World.block_lt_of_cell? _ _ hw1041_0; first | rwa [add_block] at this | exact this) GW1058.out) | (rw [add_block]; exact Nat.ne_of_lt (Nat.lt_of_lt_of_le (by have := World.block_lt_of_cell? _ _ hw1041_0; first | rwa [add_block] at this | exact this) GW1058.out)) | (show (Addr.add _ _).block ≠ _; rw [add_block]; exact Nat.ne_of_lt (Nat.lt_of_lt_of_le (by have := World.block_lt_of_cell? _ _ hw1041_0; first | rwa [add_block] at this | exact this) GW1058.out)) | (dsimp only; exact Nat.ne_of_lt (Nat.lt_of_lt_of_le (by have := World.block_lt_of_cell? _ _ hw1041_0; first | rwa [add_block] at this | exact this) GW1058.out))) _).trans ?_)); exact hHeld.2.2.2.2.2.2.2.1), (by (with_reducible repeat (refine (cell_far (p := ⟨gb1058, _, none⟩) (by first | exact Nat.ne_of_lt (Nat.lt_of_lt_of_le (by have := World.block_lt_of_cell? _ _ hw1041_1; first | rwa [add_block] at this | exact this) GW1058.out) | (rw [add_block]; exact Nat.ne_of_lt (Nat.lt_of_lt_of_le (by have := World.block_lt_of_cell? _ _ hw1041_1; first | rwa [add_block] at this | exact this) GW1058.out)) | (show (Addr.add _ _).block ≠ _; rw [add_block]; exact Nat.ne_of_lt (Nat.lt_of_lt_of_le (by have := World.block_lt_of_cell? _ _ hw1041_1; first | rwa [add_block] at this | exact this) GW1058.out)) | (dsimp only; exact Nat.ne_of_lt (Nat.lt_of_lt_of_le (by have := World.block_lt_of_cell? _ _ hw1041_1; first | rwa [add_block] at this | exact this) GW1058.out))) _).trans ?_)); exact hHeld.2.2.2.2.2.2.2.2)⟩ (fun hHeld => ?_)
        clear hK K
        refine one_ (i := 13) (N := none) #[true, true, true, true, true, true, true, true, true, true, true, true, true, true, false] rfl rfl (one_of HT_.out (by kernel_rfl)) (by decide) (fun K hK => ?_)
        have hs42 : w32.cell? ⟨gb1059, 0, none⟩ = some (.int .i64 0) := (blk_cell BK1059.out 0).trans rfl
        have hfs42 := blk_frozen BK1059.out 0
        have hns42_0 := NB1023_1059.out
        have hns42_1 := NB1024_1059.out
        have hns42_2 := NB1040_1059.out
        have hns42_3 := NB1058_1059.out
        have hms42_0 := NB1059_1023.out
        have hms42_1 := NB1059_1024.out
        have hms42_2 := NB1059_1040.out
        have hms42_3 := NB1059_1058.out
        have hs43 : w32.cell? ⟨gb1059, 1, none⟩ = some (.int .i64 0) := (blk_cell BK1059.out 1).trans rfl
        have hfs43 := blk_frozen BK1059.out 1
        have hs44 : w32.cell? ⟨gb1059, 2, none⟩ = some (.int .i64 0) := (blk_cell BK1059.out 2).trans rfl
        have hfs44 := blk_frozen BK1059.out 2
        have hs45 : w32.cell? ⟨gb1059, 3, none⟩ = some (.int .i64 0) := (blk_cell BK1059.out 3).trans rfl
        have hfs45 := blk_frozen BK1059.out 3
        first | (generalize hW9_ : World.setCell _ _ _ = W9_; refine skip_ (w1 := ?_) (by rfl) rfl ?_ ?_ <;> subst hW9_) | refine skip_ (w1 := ?_) (by rfl) rfl ?_ ?_
        rotate_left
        ·go_simp
         rfl
        refine hK.out _ _ ⟨(by (with_reducible repeat (refine (cell_far (p := ⟨gb1059, _, none⟩) NB1040_1059.out _).trans ?_)); exact hHeld.1), (by (with_reducible repeat (refine (cell_far (p := ⟨gb1059, _, none⟩) NB1040_1059.out _).trans ?_)); exact hHeld.2.1), (by (with_reducible repeat (refine (cell_far (p := ⟨gb1059, _, none⟩) NB1040_1059.out _).trans ?_)); exact hHeld.2.2.1), (by (with_reducible repeat (refine (cell_far (p := ⟨gb1059, _, none⟩) NB1040_1059.out _).trans ?_)); exact hHeld.2.2.2.1), (by (with_reducible repeat (refine (cell_far (p := ⟨gb1059, _, none⟩) NB1040_1059.out _).trans ?_)); exact hHeld.2.2.2.2.1), (by (with_reducible repeat (refine (cell_far (p := ⟨gb1059, _, none⟩) NB1040_1059.out _).trans ?_)); exact hHeld.2.2.2.2.2.1), (by (with_reducible repeat (refine (cell_far (p := ⟨gb1059, _, none⟩) NB1040_1059.out _).trans ?_)); exact hHeld.2.2.2.2.2.2.1), (by (with_reducible repeat (refine (cell_far (p := ⟨gb1059, _, none⟩) (by first | exact Nat.ne_of_lt (Nat.lt_of_lt_of_le (by have := World.block_lt_of_cell? _ _ hw1041_0; first | rwa [add_block] at this | exact this) GW1059.out) | (rw [add_block]; exact Nat.ne_of_lt (Nat.lt_of_lt_of_le (by have := World.block_lt_of_cell? _ _ hw1041_0; first | rwa [add_block] at this | exact this) GW1059.out)) | (show (Addr.add _ _).block ≠ _; rw [add_block]; exact Nat.ne_of_lt (Nat.lt_of_lt_of_le (by have := World.block_lt_of_cell? _ _ hw1041_0; first | rwa [add_block] at this | exact this) GW1059.out)) | (dsimp only; exact Nat.ne_of_lt (Nat.lt_of_lt_of_le (by have := World.block_lt_of_cell? _ _ hw1041_0; first | rwa [add_block] at this | exact this) GW1059.out))) _).trans ?_)); exact hHeld.2.2.2.2.2.2.2.1), (by (with_reducible repeat (refine (cell_far (p := ⟨gb1059, _, none⟩) (by first | exact Nat.ne_of_lt (Nat.lt_of_lt_of_le (by have := World.block_lt_of_cell? _ _ hw1041_1; first | rwa [add_block] at this | exact this) GW1059.out) | (rw [add_block]; exact Nat.ne_of_lt (Nat.lt_of_lt_of_le (by have := World.block_lt_of_cell? _ _ hw1041_1; first | rwa [add_block] at this | exact this) GW1059.out)) | (show (Addr.add _ _).block ≠ _; rw [add_block]; exact Nat.ne_of_lt (Nat.lt_of_lt_of_le (by have := World.block_lt_of_cell? _ _ hw1041_1; first | rwa [add_block] at this | exact this) GW1059.out)) | (dsimp only; exact Nat.ne_of_lt (Nat.lt_of_lt_of_le (by have := World.block_lt_of_cell? _ _ hw1041_1; first | rwa [add_block] at this | exact this) GW1059.out))) _).trans ?_)); exact hHeld.2.2.2.2.2.2.2.2)⟩ (fun hHeld => ?_)
        clear hK K
        refine pure_ (i := 14) (N := some 12) (v := ?_) (a' := ?_) #[true, true, true, true, true, true, true, true, true, true, true, true, true, true, true] rfl rfl (any_of HT_.out (by kernel_rfl)) (fun _ _ _ h => h) (Or.inl ⟨by rfl, ?_⟩) ?_ ?_
        rotate_left
        ·intro w'
         go_simp
         with_reducible rfl
        rotate_left
        ·simp only [Act.put, List.setIfInBounds_toArray, List.set_cons_zero, List.set_cons_succ, i64_w, i32_w]
         rfl
        refine done_ (done_of HT_.out (by kernel_rfl)) ?_
        have hnb46 := NB1058_1023.out
        have hnc46 := NB1023_1058.out
        have hnb47 := NB1058_1024.out
        have hnc47 := NB1024_1058.out
        have hnb48 := NB1058_1040.out
        have hnc48 := NB1040_1058.out
        have hnb49 := NB1058_1059.out
        have hnc49 := NB1059_1058.out
        obtain ⟨hcz50_0, hcz50_1, hcz50_2, hcz50_3, hcz50_4, hcz50_5, hcz50_6, hfz50_0, hfz50_1, hfz50_2, hfz50_3, hfz50_4, hfz50_5, hfz50_6⟩ := zc7_ BK1058
        have hnb51 := NB1040_1023.out
        have hnc51 := NB1023_1040.out
        have hnb52 := NB1040_1024.out
        have hnc52 := NB1024_1040.out
        have hnb53 := NB1040_1059.out
        have hnc53 := NB1059_1040.out
        obtain ⟨hcz54_0, hcz54_1, hcz54_2, hcz54_3, hcz54_4, hcz54_5, hcz54_6, hfz54_0, hfz54_1, hfz54_2, hfz54_3, hfz54_4, hfz54_5, hfz54_6⟩ := zc7_ BK1040
        have hnb55 := NB1059_1023.out
        have hnc55 := NB1023_1059.out
        have hnb56 := NB1059_1024.out
        have hnc56 := NB1024_1059.out
        obtain ⟨hcz57_0, hcz57_1, hcz57_2, hcz57_3, hfz57_0, hfz57_1, hfz57_2, hfz57_3⟩ := zc4_ BK1059
        try go_wp2_with (first | ((with_reducible refine gate_builtin (b := .append) (xs := #[.tmp 45, .tmp 47]) rfl ?_); at_builtin; refine Kd.R_append k32 (w0 := w) w.heap.size rfl (.tmp 45) (.tmp 47) 82 32 (.agg #[(.int .i64 0), (.int .i64 0), (.int .i64 0), (.int .i64 0)]) 32 rfl Try.underlying82 info32 rfl (by decide) (by omega) u7 x7_1 (⟨t1053, t1054, t1055, t1056⟩ : S32) [.int .i64 t1053, .int .i64 t1054, .int .i64 t1055, .int .i64 t1056] (fun k_ => k_ ≠ gb1059) (fun _ => False) rfl (by first | (go_simp; done) | (go_simp; rfl)) ?aP (fun _ hk => hk.elim) ?aF ?aO ?aB ?aS ?aL ?_; (case aP => exact k32_mkM _ _ _ (⟨t1053, t1054, t1055, t1056⟩ : S32)); (case aB => exact (by repeat (first | (with_reducible first | exact HB.out | apply ba_ | apply bn_ | apply bd_ | refine bset_ ?_ (by assumption)) | exact HB.out))); (case aF => exact (fun k_ hk => Kd.freshB (g := gb1059) (o := .cells #[.int .i64 t1053, .int .i64 t1054, .int .i64 t1055, .int .i64 t1056] 32 (0, 0)) (by exact fB_ BK1059) k_ hk)); (case aO => exact (by (with_reducible repeat first | apply kr1_ | apply kr2_ | apply kr3_); exact Kd.R_mono (rf7_ gb1040 (rf4_ gb1059 (rf7_ gb1058 (Kd.R_types (Kd.R_mono (Kd.R_types HO_7.out BK1058.out (by decide)) (fun k_ hk => (⟨hk, hk.1⟩ : _ ∧ k_ ≠ gb1059))) BK1040.out (by decide)) (fun _ hk => hk.1.1.2)) (fun _ hk => hk.1.2)) (fun _ hk => hk.2)) (fun _ hk => hk.1.1.1))); (case aS => exact (below_size (by repeat (first | (with_reducible first | exact HB.out | apply ba_ | apply bn_ | apply bd_ | refine bset_ ?_ (by assumption)) | exact HB.out)))); (case aL => have := LMc25.out; omega); intro v1061 w58 ho hb hg hat; rw [← Ny1060.out] at ho; replace HO_1041000 := Aside0.mk (Kd.S_over' (by (with_reducible repeat first | apply ks1_ | apply ks2_ | apply ks3_); exact (Kd.S_mono (Kd.S_mono (Kd.S_mono (sf7_ gb1040 (sf4_ gb1059 (sf7_ gb1058 (Kd.S_types (Kd.S_types (Kd.S_types HO_1041000.out BK1058.out (by decide)) BK1059.out (by decide)) BK1040.out (by decide)) (fun _ hk => hk.1.1.2)) (fun _ hk => hk.1.2)) (fun _ hk => hk.2)) (fun _ h_ => h_.1)) (fun _ h_ => h_.1)) (fun _ h_ => h_.1))) (Kd.R_typed (by (with_reducible repeat first | apply kr1_ | apply kr2_ | apply kr3_); exact (Kd.R_mono (Kd.R_mono (Kd.R_mono (rf7_ gb1040 (rf4_ gb1059 (rf7_ gb1058 (Kd.R_types (Kd.R_mono (Kd.R_types HO_7.out BK1058.out (by decide)) (fun k_ hk => (⟨hk, hk.1⟩ : _ ∧ k_ ≠ gb1059))) BK1040.out (by decide)) (fun _ hk => hk.1.1.2)) (fun _ hk => hk.1.2)) (fun _ hk => hk.2)) (fun _ h_ => h_.1)) (fun _ h_ => h_.1)) (fun _ h_ => h_.1)))) (by decide) hg); replace HO_1041006 := Aside0.mk (Kd.R_over' (by (with_reducible repeat first | apply kr1_ | apply kr2_ | apply kr3_); exact (Kd.R_mono (Kd.R_mono (Kd.R_mono (rf7_ gb1040 (rf4_ gb1059 (rf7_ gb1058 (Kd.R_types (Kd.R_types (Kd.R_types HO_1041006.out BK1058.out (by decide)) BK1059.out (by decide)) BK1040.out (by decide)) (fun _ hk => hk.1.1.2)) (fun _ hk => hk.1.2)) (fun _ hk => hk.2)) (fun _ h_ => h_.1)) (fun _ h_ => h_.1)) (fun _ h_ => h_.1))) (Kd.R_typed (by (with_reducible repeat first | apply kr1_ | apply kr2_ | apply kr3_); exact (Kd.R_mono (Kd.R_mono (Kd.R_mono (rf7_ gb1040 (rf4_ gb1059 (rf7_ gb1058 (Kd.R_types (Kd.R_mono (Kd.R_types HO_7.out BK1058.out (by decide)) (fun k_ hk => (⟨hk, hk.1⟩ : _ ∧ k_ ≠ gb1059))) BK1040.out (by decide)) (fun _ hk => hk.1.1.2)) (fun _ hk => hk.1.2)) (fun _ hk => hk.2)) (fun _ h_ => h_.1)) (fun _ h_ => h_.1)) (fun _ h_ => h_.1)))) (by decide) hg); replace BK1023 := Aside0.mk (blk_grown (g := gb1023) (o := .cells #[.slice A0_0 l0_0.length c0_0, .int .i64 a0_1, .int .i64 a0_2, .int .i64 a0_3, .int .i64 a0_4, .int .i64 a0_5, .slice A0_6 l0_6.length c0_6] 70 (0, 0)) (by exact fB_ BK1023) hg (Kd.R_ne HO_7.out BK1023.out (by decide))); replace BK1024 := Aside0.mk (blk_grown (g := gb1024) (o := .cells #[.slice none 0 0, .int .i64 x1025001_1, .int .i64 x1025002_1, .int .i64 x1025003_1, .int .i64 x1025004_1, .int .i64 x1025005_1, .slice none 0 0] 70 (0, 0)) (by exact fB_ BK1024) hg (Kd.R_ne HO_7.out BK1024.out (by decide))); replace HO1044 := Aside0.mk (Kd.S_over' (by (with_reducible repeat first | apply ks1_ | apply ks2_ | apply ks3_); exact (Kd.S_mono (Kd.S_mono (Kd.S_mono (sf7_ gb1040 (sf4_ gb1059 (sf7_ gb1058 (Kd.S_types (Kd.S_types (Kd.S_types HO1044.out BK1058.out (by decide)) BK1059.out (by decide)) BK1040.out (by decide)) (fun _ hk => hk.1.1.2)) (fun _ hk => hk.1.2)) (fun _ hk => hk.2)) (fun _ h_ => h_.1)) (fun _ h_ => h_.1)) (fun _ h_ => h_.1))) (Kd.R_typed (by (with_reducible repeat first | apply kr1_ | apply kr2_ | apply kr3_); exact (Kd.R_mono (Kd.R_mono (Kd.R_mono (rf7_ gb1040 (rf4_ gb1059 (rf7_ gb1058 (Kd.R_types (Kd.R_mono (Kd.R_types HO_7.out BK1058.out (by decide)) (fun k_ hk => (⟨hk, hk.1⟩ : _ ∧ k_ ≠ gb1059))) BK1040.out (by decide)) (fun _ hk => hk.1.1.2)) (fun _ hk => hk.1.2)) (fun _ hk => hk.2)) (fun _ h_ => h_.1)) (fun _ h_ => h_.1)) (fun _ h_ => h_.1)))) (by decide) hg); replace HO1052 := Aside0.mk (Kd.R_over' (by (with_reducible repeat first | apply kr1_ | apply kr2_ | apply kr3_); exact (Kd.R_mono (Kd.R_mono (Kd.R_mono (rf7_ gb1040 (rf4_ gb1059 (rf7_ gb1058 (Kd.R_types (Kd.R_types (Kd.R_types HO1052.out BK1058.out (by decide)) BK1059.out (by decide)) BK1040.out (by decide)) (fun _ hk => hk.1.1.2)) (fun _ hk => hk.1.2)) (fun _ hk => hk.2)) (fun _ h_ => h_.1)) (fun _ h_ => h_.1)) (fun _ h_ => h_.1))) (Kd.R_typed (by (with_reducible repeat first | apply kr1_ | apply kr2_ | apply kr3_); exact (Kd.R_mono (Kd.R_mono (Kd.R_mono (rf7_ gb1040 (rf4_ gb1059 (rf7_ gb1058 (Kd.R_types (Kd.R_mono (Kd.R_types HO_7.out BK1058.out (by decide)) (fun k_ hk => (⟨hk, hk.1⟩ : _ ∧ k_ ≠ gb1059))) BK1040.out (by decide)) (fun _ hk => hk.1.1.2)) (fun _ hk => hk.1.2)) (fun _ hk => hk.2)) (fun _ h_ => h_.1)) (fun _ h_ => h_.1)) (fun _ h_ => h_.1)))) (by decide) hg); replace BK1040 := Aside0.mk (blk_grown (g := gb1040) (o := .cells #[.slice Ao33 t1042.length co33, .int .i64 t1045, .int .i64 t1046, .int .i64 t1047, .int .i64 t1048, .int .i64 t1049, .slice Ao40 t1050.length co40] 70 (0, 0)) (by exact fB_ BK1040) hg (Kd.R_ne HO_7.out BK1040.out (by decide))); replace BK1058 := Aside0.mk (blk_grown (g := gb1058) (o := .cells #[.slice Ao33 t1042.length co33, .int .i64 t1045, .int .i64 t1046, .int .i64 t1047, .int .i64 t1048, .int .i64 t1049, .slice Ao40 t1050.length co40] 70 (0, 0)) (by exact fB_ BK1058) hg (Kd.R_ne HO_7.out BK1058.out (by decide))); replace BK1059 := Aside0.mk (blk_grown (g := gb1059) (o := .cells #[.int .i64 t1053, .int .i64 t1054, .int .i64 t1055, .int .i64 t1056] 32 (0, 0)) (by exact fB_ BK1059) hg (Kd.R_away HO_7.out (fun _ hk => hk))); replace HB := Aside0.mk (hb); have HO1062 := Aside0.mk (ho); clear HO_7; clear ho hb hg hat))
        go_roundg k1
        case measure => have := HK1.out; omega
        case rel => exact ⟨(y1060), (wrap64 (x9_1 + 1)), (x1025001_1), (x1025002_1), (x1025003_1), (x1025004_1), (x1025005_1), (t1042), (t1045), (t1046), (t1047), (t1048), (t1049), (t1050), (.slice Ao33 t1042.length co33), (.slice Ao40 t1050.length co40), (by first | rfl | (simp; done) | (simp [*]; done)), H', ⟨by have := HK1.out; omega⟩, ⟨by (with_reducible repeat first | apply kr1_ | apply kr2_ | apply kr3_); exact Kd.R_mono HO1062.out (fun _ hk => trivial)⟩, ⟨by (with_reducible repeat first | apply ks1_ | apply ks2_ | apply ks3_); exact Kd.S_mono HO1044.out (fun _ hk => trivial)⟩, ⟨by (with_reducible repeat first | apply kr1_ | apply kr2_ | apply kr3_); exact Kd.R_mono HO1052.out (fun _ hk => trivial)⟩, ⟨by (with_reducible repeat first | apply kb1_ | apply kb2_ | apply kb3_); exact BK1023.out⟩, ⟨by (with_reducible repeat first | apply kb1_ | apply kb2_ | apply kb3_); exact BK1024.out⟩, ⟨by (with_reducible repeat first | apply kb1_ | apply kb2_ | apply kb3_); exact BK1040.out⟩, ⟨by repeat (first | (with_reducible first | exact HB.out | apply below_alloc | apply pw_below_drewN | apply below_drew1 | refine below_set ?_ GE1023.out | refine below_set ?_ GE1024.out | refine below_set ?_ GE1040.out | refine below_set ?_ GE1058.out | refine below_set ?_ GE1059.out) | exact HB.out)⟩⟩
       ·rw [if_neg c25] at H
        exact absurd H (by simp)
      ·replace c24 := Bool.eq_false_iff.mpr c24
       subst c24
       have H1 : (some (([] : List (List Int)), 0, 0, 0, 0, 0, ([] : List Int), (([] : List (S32))), false)) = some (r1, r2, r3, r4, r5, r6, r7, r8, r9) := by rw [if_neg (show ¬ (false = true) by decide)] at H; exact H
       clear H
       have H := H1
       clear H1
       obtain ⟨y1063, hy1063⟩ : ∃ y_ : List (S32), y_ = (([] : List (S32))) := ⟨_, rfl⟩
       replace H : (some (([] : List (List Int)), 0, 0, 0, 0, 0, ([] : List Int), y1063, false)) = some (r1, r2, r3, r4, r5, r6, r7, r8, r9) := by first | (rw [hy1063]; with_reducible exact H) | (have H2_ := (Option.bind_some _ _).symm.trans H; rw [hy1063]; with_reducible exact H2_) | (have H2_ := (Option.bind_some _ _).symm.trans H; with_reducible exact H2_) | with_reducible exact H | (rw [hy1063]; exact H) | exact H
       have Ny1063 := Aside0.mk hy1063
       clear hy1063
       simp only [Option.some.injEq, Prod.mk.injEq] at H
       obtain ⟨rfl, rfl, rfl, rfl, rfl, rfl, rfl, rfl, rfl⟩ := H
       obtain ⟨Ao59, co59, eo59⟩ := Kd.S_slice HO_1041000.out
       subst eo59
       obtain ⟨Ao60, co60, eo60⟩ := Kd.R_slice HO_1041006.out
       subst eo60
       try go_wp2
       replace HO_7 := Aside0.mk (Kd.R_drew HO_7.out)
       replace HO_1041000 := Aside0.mk (Kd.S_drew HO_1041000.out)
       replace HO_1041006 := Aside0.mk (Kd.R_drew HO_1041006.out)
       replace BK1023 := Aside0.mk (blk_drew BK1023.out)
       replace BK1024 := Aside0.mk (blk_drew BK1024.out)
       replace BK1040 := Aside0.mk (blk_drew BK1040.out)
       replace HB := Aside0.mk (below_drew1 HB.out)
       have p1041 : 0 ≤ (x9_1 : Int) := of_decide_eq_true as_
       have q1041 : x9_1 < (l1.length : Int) := of_decide_eq_true as_
       obtain ⟨ad1041, e1041, hx1041_0, hx1041_1⟩ := at_T74 HR1.out x9_1 p1041 q1041
       have hw1041_1 := hx1041_1
       have hw1041_0 := hx1041_0
       cases e1041
       replace hx1041_0 := (HB.out.cell (World.block_lt_of_cell? w _ hx1041_0)).trans hx1041_0
       replace hx1041_1 := (HB.out.cell (World.block_lt_of_cell? w _ hx1041_1)).trans hx1041_1
       replace p1041 := eq_true p1041
       replace q1041 := eq_true q1041
       refine start_ (n := 15) (S := fun w' => w'.cell? ⟨gb1040, 0, none⟩ = some (.slice Ao59 x1041000_1.length co59) ∧ w'.cell? ⟨gb1040, 1, none⟩ = some (.int .i64 x1041001_1) ∧ w'.cell? ⟨gb1040, 2, none⟩ = some (.int .i64 x1041002_1) ∧ w'.cell? ⟨gb1040, 3, none⟩ = some (.int .i64 x1041003_1) ∧ w'.cell? ⟨gb1040, 4, none⟩ = some (.int .i64 x1041004_1) ∧ w'.cell? ⟨gb1040, 5, none⟩ = some (.int .i64 x1041005_1) ∧ w'.cell? ⟨gb1040, 6, none⟩ = some (.slice Ao60 x1041006_1.length co60) ∧ w'.cell? (ad1041.add ((x9_1).toNat * 2)) = some (.int .i64 ((rd_T74 l1 x9_1).f0)) ∧ w'.cell? ⟨(ad1041.add ((x9_1).toNat * 2)).block, (ad1041.add ((x9_1).toNat * 2)).off + 1, none⟩ = some (.int .i64 ((rd_T74 l1 x9_1).f1))) (ds := []) #[false, false, false, false, false, false, false, false, false, false, false, false, false, false, false] (by kernel_rfl) rfl rfl ⟨(blk_cell BK1040.out 0).trans rfl, (blk_cell BK1040.out 1).trans rfl, (blk_cell BK1040.out 2).trans rfl, (blk_cell BK1040.out 3).trans rfl, (blk_cell BK1040.out 4).trans rfl, (blk_cell BK1040.out 5).trans rfl, (blk_cell BK1040.out 6).trans rfl, ((HB.out.cell (World.block_lt_of_cell? w _ hw1041_0)).trans hw1041_0), ((HB.out.cell (World.block_lt_of_cell? w _ hw1041_1)).trans hw1041_1)⟩ (fun hHeld => ?_); refine with_tabW spec_GiveAll.tab8 spec_GiveAll.bits8 (fun HT_ HW_ => ?_)
       generalize wr.drew = w61 at HO_7 HO_1041000 HO_1041006 BK1023 BK1024 BK1040 HB hx1041_0 hx1041_1 hHeld ⊢
       refine pure_ (i := 1) (N := some 32) (v := ?_) (a' := ?_) #[false, true, false, false, false, false, false, false, false, false, false, false, false, false, false] rfl rfl (any_of HT_.out (by kernel_rfl)) (fun _ _ _ h => h) (Or.inl ⟨by rfl, ?_⟩) ?_ ?_
       rotate_left
       ·intro w'
        go_simp
        with_reducible rfl
       rotate_left
       ·simp only [Act.put, List.setIfInBounds_toArray, List.set_cons_zero, List.set_cons_succ, i64_w, i32_w]
        rfl
       refine pure_ (i := 2) (N := some 33) (v := ?_) (a' := ?_) #[false, true, true, false, false, false, false, false, false, false, false, false, false, false, false] rfl rfl (any_of HT_.out (by kernel_rfl)) (fun _ _ _ h => h) (Or.inl ⟨by rfl, ?_⟩) ?_ ?_
       rotate_left
       ·intro w'
        go_simp
        with_reducible rfl
       rotate_left
       ·simp only [Act.put, List.setIfInBounds_toArray, List.set_cons_zero, List.set_cons_succ, i64_w, i32_w]
        rfl
       refine pure_ (i := 3) (N := some 34) (v := ?_) (a' := ?_) #[false, true, true, true, false, false, false, false, false, false, false, false, false, false, false] rfl rfl (any_of HT_.out (by kernel_rfl)) (fun _ _ _ h => h) (Or.inl ⟨by rfl, ?_⟩) ?_ ?_
       rotate_left
       ·intro w'
        go_simp
        with_reducible rfl
       rotate_left
       ·simp only [Act.put, List.setIfInBounds_toArray, List.set_cons_zero, List.set_cons_succ, i64_w, i32_w]
        rfl
       refine take_ (i := 0) (N := some 31) (v := ?_) (a' := ?_) #[true, true, true, true, false, false, false, false, false, false, false, false, false, false, false] rfl rfl (take_ofW HT_.out HW_.out (by kernel_rfl)) (fun _ _ _ h => h) (Or.inl ⟨by rfl, ?_⟩) hHeld ?_ ?_
       rotate_left
       ·rintro w' ⟨s0, s1, s2, s3, s4, s5, s6, s7, s8⟩
        go_simp
        with_reducible rfl
       rotate_left
       ·simp only [Act.put, List.setIfInBounds_toArray, List.set_cons_zero, List.set_cons_succ, i64_w, i32_w]
        rfl
       refine take_ (i := 4) (N := some 35) (v := ?_) (a' := ?_) #[true, true, true, true, true, false, false, false, false, false, false, false, false, false, false] rfl rfl (take_ofW HT_.out HW_.out (by kernel_rfl)) (fun _ _ _ h => h) (Or.inl ⟨by rfl, ?_⟩) hHeld ?_ ?_
       rotate_left
       ·rintro w' ⟨s0, s1, s2, s3, s4, s5, s6, s7, s8⟩
        go_simp
        with_reducible rfl
       rotate_left
       ·simp only [Act.put, List.setIfInBounds_toArray, List.set_cons_zero, List.set_cons_succ, i64_w, i32_w]
        rfl
       refine join_ (σ := Value × Value × Nat × Nat) 3 #[true, true, true, true, true, true, true, true, true, true, true, true, false, false, false] (fun s_ => [(36, .tuple #[.agg #[s_.1, .int .i64 t1045, .int .i64 t1046, .int .i64 t1047, .int .i64 t1048, .int .i64 t1049, s_.2.1], .agg #[.int .i64 t1053, .int .i64 t1054, .int .i64 t1055, .int .i64 t1056], .bool false]), (10, .pointer (some ⟨s_.2.2.1, 0, none⟩)), (11, .pointer (some ⟨s_.2.2.2, 0, none⟩)), (30, .tuple #[.agg #[s_.1, .int .i64 t1045, .int .i64 t1046, .int .i64 t1047, .int .i64 t1048, .int .i64 t1049, s_.2.1], .agg #[.int .i64 t1053, .int .i64 t1054, .int .i64 t1055, .int .i64 t1056], .bool false]), (37, .agg #[s_.1, .int .i64 t1045, .int .i64 t1046, .int .i64 t1047, .int .i64 t1048, .int .i64 t1049, s_.2.1]), (38, .agg #[.int .i64 t1053, .int .i64 t1054, .int .i64 t1055, .int .i64 t1056]), (39, .bool false)]) (fun s_ w' => (w'.cell? ⟨gb1040, 0, none⟩ = some (.slice Ao59 x1041000_1.length co59) ∧ w'.cell? ⟨gb1040, 1, none⟩ = some (.int .i64 x1041001_1) ∧ w'.cell? ⟨gb1040, 2, none⟩ = some (.int .i64 x1041002_1) ∧ w'.cell? ⟨gb1040, 3, none⟩ = some (.int .i64 x1041003_1) ∧ w'.cell? ⟨gb1040, 4, none⟩ = some (.int .i64 x1041004_1) ∧ w'.cell? ⟨gb1040, 5, none⟩ = some (.int .i64 x1041005_1) ∧ w'.cell? ⟨gb1040, 6, none⟩ = some (.slice Ao60 x1041006_1.length co60) ∧ w'.cell? (ad1041.add ((x9_1).toNat * 2)) = some (.int .i64 ((rd_T74 l1 x9_1).f0)) ∧ w'.cell? ⟨(ad1041.add ((x9_1).toNat * 2)).block, (ad1041.add ((x9_1).toNat * 2)).off + 1, none⟩ = some (.int .i64 ((rd_T74 l1 x9_1).f1))) ∧ (Kd.S (Kd.slice 5 (Kd.int .u8)) 29 w' w.heap.size (fun k_ => some k_ ≠ (.slice Ao59 x1041000_1.length co59 : Value).ownBlock) s_.1 t1042) ∧ (Kd.R (Kd.int .i64) 3 w' w.heap.size (fun k_ => some k_ ≠ (.slice Ao60 x1041006_1.length co60 : Value).ownBlock) s_.2.1 t1050) ∧ (Kd.S (Kd.slice 5 (Kd.int .u8)) 29 w' w.heap.size (fun k_ => some k_ ≠ (s_.1 : Value).ownBlock) (.slice Ao59 x1041000_1.length co59) x1041000_1) ∧ (Kd.R (Kd.int .i64) 3 w' w.heap.size (fun k_ => some k_ ≠ (s_.2.1 : Value).ownBlock) (.slice Ao60 x1041006_1.length co60) x1041006_1) ∧ (Kd.R k32 32 w' w.heap.size (fun k_ => k_ ≠ s_.2.2.2) u7 x7_1) ∧ (w'.heap[gb1023]? = some (.cells #[.slice A0_0 l0_0.length c0_0, .int .i64 a0_1, .int .i64 a0_2, .int .i64 a0_3, .int .i64 a0_4, .int .i64 a0_5, .slice A0_6 l0_6.length c0_6] 70 (0, 0))) ∧ (w'.heap[gb1024]? = some (.cells #[.slice none 0 0, .int .i64 x1025001_1, .int .i64 x1025002_1, .int .i64 x1025003_1, .int .i64 x1025004_1, .int .i64 x1025005_1, .slice none 0 0] 70 (0, 0))) ∧ (w'.heap[gb1040]? = some (.cells #[.slice Ao59 x1041000_1.length co59, .int .i64 x1041001_1, .int .i64 x1041002_1, .int .i64 x1041003_1, .int .i64 x1041004_1, .int .i64 x1041005_1, .slice Ao60 x1041006_1.length co60] 70 (0, 0))) ∧ (w'.heap[s_.2.2.1]? = some (.cells #[.slice none 0 0, .int .i64 0, .int .i64 0, .int .i64 0, .int .i64 0, .int .i64 0, .slice none 0 0] 70 (0, 0))) ∧ (w'.heap[s_.2.2.2]? = some (.cells #[.int .i64 0, .int .i64 0, .int .i64 0, .int .i64 0] 32 (0, 0))) ∧ (w.heap.size ≤ s_.2.2.1) ∧ (w.heap.size ≤ s_.2.2.1) ∧ (gb1023 ≠ s_.2.2.1) ∧ (s_.2.2.1 ≠ gb1023) ∧ (gb1024 ≠ s_.2.2.1) ∧ (s_.2.2.1 ≠ gb1024) ∧ (gb1040 ≠ s_.2.2.1) ∧ (s_.2.2.1 ≠ gb1040) ∧ (s_.2.2.2 ≠ s_.2.2.1) ∧ (s_.2.2.1 ≠ s_.2.2.2) ∧ (w.heap.size ≤ s_.2.2.2) ∧ (w.heap.size ≤ s_.2.2.2) ∧ (gb1023 ≠ s_.2.2.2) ∧ (s_.2.2.2 ≠ gb1023) ∧ (gb1024 ≠ s_.2.2.2) ∧ (s_.2.2.2 ≠ gb1024) ∧ (gb1040 ≠ s_.2.2.2) ∧ (s_.2.2.2 ≠ gb1040) ∧ (Below w.heap.size w w')) ?_ ?_
       rotate_left
       ·intro hJ5_10_11
        refine join_ (σ := Value × Value × Nat) 4 #[true, true, true, true, true, true, true, true, true, true, true, false, false, false, false] (fun s_ => [(36, .tuple #[.agg #[s_.1, .int .i64 t1045, .int .i64 t1046, .int .i64 t1047, .int .i64 t1048, .int .i64 t1049, s_.2.1], .agg #[.int .i64 t1053, .int .i64 t1054, .int .i64 t1055, .int .i64 t1056], .bool false]), (10, .pointer (some ⟨s_.2.2, 0, none⟩)), (30, .tuple #[.agg #[s_.1, .int .i64 t1045, .int .i64 t1046, .int .i64 t1047, .int .i64 t1048, .int .i64 t1049, s_.2.1], .agg #[.int .i64 t1053, .int .i64 t1054, .int .i64 t1055, .int .i64 t1056], .bool false]), (37, .agg #[s_.1, .int .i64 t1045, .int .i64 t1046, .int .i64 t1047, .int .i64 t1048, .int .i64 t1049, s_.2.1]), (38, .agg #[.int .i64 t1053, .int .i64 t1054, .int .i64 t1055, .int .i64 t1056]), (39, .bool false)]) (fun s_ w' => (w'.cell? ⟨gb1040, 0, none⟩ = some (.slice Ao59 x1041000_1.length co59) ∧ w'.cell? ⟨gb1040, 1, none⟩ = some (.int .i64 x1041001_1) ∧ w'.cell? ⟨gb1040, 2, none⟩ = some (.int .i64 x1041002_1) ∧ w'.cell? ⟨gb1040, 3, none⟩ = some (.int .i64 x1041003_1) ∧ w'.cell? ⟨gb1040, 4, none⟩ = some (.int .i64 x1041004_1) ∧ w'.cell? ⟨gb1040, 5, none⟩ = some (.int .i64 x1041005_1) ∧ w'.cell? ⟨gb1040, 6, none⟩ = some (.slice Ao60 x1041006_1.length co60) ∧ w'.cell? (ad1041.add ((x9_1).toNat * 2)) = some (.int .i64 ((rd_T74 l1 x9_1).f0)) ∧ w'.cell? ⟨(ad1041.add ((x9_1).toNat * 2)).block, (ad1041.add ((x9_1).toNat * 2)).off + 1, none⟩ = some (.int .i64 ((rd_T74 l1 x9_1).f1))) ∧ (Kd.S (Kd.slice 5 (Kd.int .u8)) 29 w' w.heap.size (fun k_ => some k_ ≠ (.slice Ao59 x1041000_1.length co59 : Value).ownBlock) s_.1 t1042) ∧ (Kd.R (Kd.int .i64) 3 w' w.heap.size (fun k_ => some k_ ≠ (.slice Ao60 x1041006_1.length co60 : Value).ownBlock) s_.2.1 t1050) ∧ (Kd.S (Kd.slice 5 (Kd.int .u8)) 29 w' w.heap.size (fun k_ => some k_ ≠ (s_.1 : Value).ownBlock) (.slice Ao59 x1041000_1.length co59) x1041000_1) ∧ (Kd.R (Kd.int .i64) 3 w' w.heap.size (fun k_ => some k_ ≠ (s_.2.1 : Value).ownBlock) (.slice Ao60 x1041006_1.length co60) x1041006_1) ∧ (Kd.R k32 32 w' w.heap.size (fun _ => True) u7 x7_1) ∧ (w'.heap[gb1023]? = some (.cells #[.slice A0_0 l0_0.length c0_0, .int .i64 a0_1, .int .i64 a0_2, .int .i64 a0_3, .int .i64 a0_4, .int .i64 a0_5, .slice A0_6 l0_6.length c0_6] 70 (0, 0))) ∧ (w'.heap[gb1024]? = some (.cells #[.slice none 0 0, .int .i64 x1025001_1, .int .i64 x1025002_1, .int .i64 x1025003_1, .int .i64 x1025004_1, .int .i64 x1025005_1, .slice none 0 0] 70 (0, 0))) ∧ (w'.heap[gb1040]? = some (.cells #[.slice Ao59 x1041000_1.length co59, .int .i64 x1041001_1, .int .i64 x1041002_1, .int .i64 x1041003_1, .int .i64 x1041004_1, .int .i64 x1041005_1, .slice Ao60 x1041006_1.length co60] 70 (0, 0))) ∧ (w'.heap[s_.2.2]? = some (.cells #[.slice none 0 0, .int .i64 0, .int .i64 0, .int .i64 0, .int .i64 0, .int .i64 0, .slice none 0 0] 70 (0, 0))) ∧ (w.heap.size ≤ s_.2.2) ∧ (w.heap.size ≤ s_.2.2) ∧ (gb1023 ≠ s_.2.2) ∧ (s_.2.2 ≠ gb1023) ∧ (gb1024 ≠ s_.2.2) ∧ (s_.2.2 ≠ gb1024) ∧ (gb1040 ≠ s_.2.2) ∧ (s_.2.2 ≠ gb1040) ∧ (Below w.heap.size w w')) ?_ ?_
        rotate_left
        ·intro hJ5_10
         refine join_ (σ := Value × Value × Nat) 4 #[true, true, true, true, true, true, true, true, true, true, false, true, false, false, false] (fun s_ => [(36, .tuple #[.agg #[s_.1, .int .i64 t1045, .int .i64 t1046, .int .i64 t1047, .int .i64 t1048, .int .i64 t1049, s_.2.1], .agg #[.int .i64 t1053, .int .i64 t1054, .int .i64 t1055, .int .i64 t1056], .bool false]), (11, .pointer (some ⟨s_.2.2, 0, none⟩)), (30, .tuple #[.agg #[s_.1, .int .i64 t1045, .int .i64 t1046, .int .i64 t1047, .int .i64 t1048, .int .i64 t1049, s_.2.1], .agg #[.int .i64 t1053, .int .i64 t1054, .int .i64 t1055, .int .i64 t1056], .bool false]), (37, .agg #[s_.1, .int .i64 t1045, .int .i64 t1046, .int .i64 t1047, .int .i64 t1048, .int .i64 t1049, s_.2.1]), (38, .agg #[.int .i64 t1053, .int .i64 t1054, .int .i64 t1055, .int .i64 t1056]), (39, .bool false)]) (fun s_ w' => (w'.cell? ⟨gb1040, 0, none⟩ = some (.slice Ao59 x1041000_1.length co59) ∧ w'.cell? ⟨gb1040, 1, none⟩ = some (.int .i64 x1041001_1) ∧ w'.cell? ⟨gb1040, 2, none⟩ = some (.int .i64 x1041002_1) ∧ w'.cell? ⟨gb1040, 3, none⟩ = some (.int .i64 x1041003_1) ∧ w'.cell? ⟨gb1040, 4, none⟩ = some (.int .i64 x1041004_1) ∧ w'.cell? ⟨gb1040, 5, none⟩ = some (.int .i64 x1041005_1) ∧ w'.cell? ⟨gb1040, 6, none⟩ = some (.slice Ao60 x1041006_1.length co60) ∧ w'.cell? (ad1041.add ((x9_1).toNat * 2)) = some (.int .i64 ((rd_T74 l1 x9_1).f0)) ∧ w'.cell? ⟨(ad1041.add ((x9_1).toNat * 2)).block, (ad1041.add ((x9_1).toNat * 2)).off + 1, none⟩ = some (.int .i64 ((rd_T74 l1 x9_1).f1))) ∧ (Kd.S (Kd.slice 5 (Kd.int .u8)) 29 w' w.heap.size (fun k_ => some k_ ≠ (.slice Ao59 x1041000_1.length co59 : Value).ownBlock) s_.1 t1042) ∧ (Kd.R (Kd.int .i64) 3 w' w.heap.size (fun k_ => some k_ ≠ (.slice Ao60 x1041006_1.length co60 : Value).ownBlock) s_.2.1 t1050) ∧ (Kd.S (Kd.slice 5 (Kd.int .u8)) 29 w' w.heap.size (fun k_ => some k_ ≠ (s_.1 : Value).ownBlock) (.slice Ao59 x1041000_1.length co59) x1041000_1) ∧ (Kd.R (Kd.int .i64) 3 w' w.heap.size (fun k_ => some k_ ≠ (s_.2.1 : Value).ownBlock) (.slice Ao60 x1041006_1.length co60) x1041006_1) ∧ (Kd.R k32 32 w' w.heap.size (fun k_ => k_ ≠ s_.2.2) u7 x7_1) ∧ (w'.heap[gb1023]? = some (.cells #[.slice A0_0 l0_0.length c0_0, .int .i64 a0_1, .int .i64 a0_2, .int .i64 a0_3, .int .i64 a0_4, .int .i64 a0_5, .slice A0_6 l0_6.length c0_6] 70 (0, 0))) ∧ (w'.heap[gb1024]? = some (.cells #[.slice none 0 0, .int .i64 x1025001_1, .int .i64 x1025002_1, .int .i64 x1025003_1, .int .i64 x1025004_1, .int .i64 x1025005_1, .slice none 0 0] 70 (0, 0))) ∧ (w'.heap[gb1040]? = some (.cells #[.slice Ao59 x1041000_1.length co59, .int .i64 x1041001_1, .int .i64 x1041002_1, .int .i64 x1041003_1, .int .i64 x1041004_1, .int .i64 x1041005_1, .slice Ao60 x1041006_1.length co60] 70 (0, 0))) ∧ (w'.heap[s_.2.2]? = some (.cells #[.int .i64 0, .int .i64 0, .int .i64 0, .int .i64 0] 32 (0, 0))) ∧ (w.heap.size ≤ s_.2.2) ∧ (w.heap.size ≤ s_.2.2) ∧ (gb1023 ≠ s_.2.2) ∧ (s_.2.2 ≠ gb1023) ∧ (gb1024 ≠ s_.2.2) ∧ (s_.2.2 ≠ gb1024) ∧ (gb1040 ≠ s_.2.2) ∧ (s_.2.2 ≠ gb1040) ∧ (Below w.heap.size w w')) ?_ ?_
         rotate_left
         ·intro hJ5_11
          refine join_ (σ := Nat × Nat) 8 #[true, true, true, true, true, false, false, false, false, false, true, true, false, false, false] (fun s_ => [(10, .pointer (some ⟨s_.1, 0, none⟩)), (11, .pointer (some ⟨s_.2, 0, none⟩))]) (fun s_ w' => (w'.cell? ⟨gb1040, 0, none⟩ = some (.slice Ao59 x1041000_1.length co59) ∧ w'.cell? ⟨gb1040, 1, none⟩ = some (.int .i64 x1041001_1) ∧ w'.cell? ⟨gb1040, 2, none⟩ = some (.int .i64 x1041002_1) ∧ w'.cell? ⟨gb1040, 3, none⟩ = some (.int .i64 x1041003_1) ∧ w'.cell? ⟨gb1040, 4, none⟩ = some (.int .i64 x1041004_1) ∧ w'.cell? ⟨gb1040, 5, none⟩ = some (.int .i64 x1041005_1) ∧ w'.cell? ⟨gb1040, 6, none⟩ = some (.slice Ao60 x1041006_1.length co60) ∧ w'.cell? (ad1041.add ((x9_1).toNat * 2)) = some (.int .i64 ((rd_T74 l1 x9_1).f0)) ∧ w'.cell? ⟨(ad1041.add ((x9_1).toNat * 2)).block, (ad1041.add ((x9_1).toNat * 2)).off + 1, none⟩ = some (.int .i64 ((rd_T74 l1 x9_1).f1))) ∧ (Kd.S (Kd.slice 5 (Kd.int .u8)) 29 w' w.heap.size (fun _ => True) (.slice Ao59 x1041000_1.length co59) x1041000_1) ∧ (Kd.R (Kd.int .i64) 3 w' w.heap.size (fun _ => True) (.slice Ao60 x1041006_1.length co60) x1041006_1) ∧ (Kd.R k32 32 w' w.heap.size (fun k_ => k_ ≠ s_.2) u7 x7_1) ∧ (w'.heap[gb1023]? = some (.cells #[.slice A0_0 l0_0.length c0_0, .int .i64 a0_1, .int .i64 a0_2, .int .i64 a0_3, .int .i64 a0_4, .int .i64 a0_5, .slice A0_6 l0_6.length c0_6] 70 (0, 0))) ∧ (w'.heap[gb1024]? = some (.cells #[.slice none 0 0, .int .i64 x1025001_1, .int .i64 x1025002_1, .int .i64 x1025003_1, .int .i64 x1025004_1, .int .i64 x1025005_1, .slice none 0 0] 70 (0, 0))) ∧ (w'.heap[gb1040]? = some (.cells #[.slice Ao59 x1041000_1.length co59, .int .i64 x1041001_1, .int .i64 x1041002_1, .int .i64 x1041003_1, .int .i64 x1041004_1, .int .i64 x1041005_1, .slice Ao60 x1041006_1.length co60] 70 (0, 0))) ∧ (w'.heap[s_.1]? = some (.cells #[.slice none 0 0, .int .i64 0, .int .i64 0, .int .i64 0, .int .i64 0, .int .i64 0, .slice none 0 0] 70 (0, 0))) ∧ (w'.heap[s_.2]? = some (.cells #[.int .i64 0, .int .i64 0, .int .i64 0, .int .i64 0] 32 (0, 0))) ∧ (w.heap.size ≤ s_.1) ∧ (w.heap.size ≤ s_.1) ∧ (gb1023 ≠ s_.1) ∧ (s_.1 ≠ gb1023) ∧ (gb1024 ≠ s_.1) ∧ (s_.1 ≠ gb1024) ∧ (gb1040 ≠ s_.1) ∧ (s_.1 ≠ gb1040) ∧ (s_.2 ≠ s_.1) ∧ (s_.1 ≠ s_.2) ∧ (w.heap.size ≤ s_.2) ∧ (w.heap.size ≤ s_.2) ∧ (gb1023 ≠ s_.2) ∧ (s_.2 ≠ gb1023) ∧ (gb1024 ≠ s_.2) ∧ (s_.2 ≠ gb1024) ∧ (gb1040 ≠ s_.2) ∧ (s_.2 ≠ gb1040) ∧ (Below w.heap.size w w')) ?_ ?_
          rotate_left
          ·intro hJ10_11
           refine join_ (σ := Value × Value) 5 #[true, true, true, true, true, true, true, true, true, true, false, false, false, false, false] (fun s_ => [(36, .tuple #[.agg #[s_.1, .int .i64 t1045, .int .i64 t1046, .int .i64 t1047, .int .i64 t1048, .int .i64 t1049, s_.2], .agg #[.int .i64 t1053, .int .i64 t1054, .int .i64 t1055, .int .i64 t1056], .bool false]), (30, .tuple #[.agg #[s_.1, .int .i64 t1045, .int .i64 t1046, .int .i64 t1047, .int .i64 t1048, .int .i64 t1049, s_.2], .agg #[.int .i64 t1053, .int .i64 t1054, .int .i64 t1055, .int .i64 t1056], .bool false]), (37, .agg #[s_.1, .int .i64 t1045, .int .i64 t1046, .int .i64 t1047, .int .i64 t1048, .int .i64 t1049, s_.2]), (38, .agg #[.int .i64 t1053, .int .i64 t1054, .int .i64 t1055, .int .i64 t1056]), (39, .bool false)]) (fun s_ w' => (w'.cell? ⟨gb1040, 0, none⟩ = some (.slice Ao59 x1041000_1.length co59) ∧ w'.cell? ⟨gb1040, 1, none⟩ = some (.int .i64 x1041001_1) ∧ w'.cell? ⟨gb1040, 2, none⟩ = some (.int .i64 x1041002_1) ∧ w'.cell? ⟨gb1040, 3, none⟩ = some (.int .i64 x1041003_1) ∧ w'.cell? ⟨gb1040, 4, none⟩ = some (.int .i64 x1041004_1) ∧ w'.cell? ⟨gb1040, 5, none⟩ = some (.int .i64 x1041005_1) ∧ w'.cell? ⟨gb1040, 6, none⟩ = some (.slice Ao60 x1041006_1.length co60) ∧ w'.cell? (ad1041.add ((x9_1).toNat * 2)) = some (.int .i64 ((rd_T74 l1 x9_1).f0)) ∧ w'.cell? ⟨(ad1041.add ((x9_1).toNat * 2)).block, (ad1041.add ((x9_1).toNat * 2)).off + 1, none⟩ = some (.int .i64 ((rd_T74 l1 x9_1).f1))) ∧ (Kd.S (Kd.slice 5 (Kd.int .u8)) 29 w' w.heap.size (fun k_ => some k_ ≠ (.slice Ao59 x1041000_1.length co59 : Value).ownBlock) s_.1 t1042) ∧ (Kd.R (Kd.int .i64) 3 w' w.heap.size (fun k_ => some k_ ≠ (.slice Ao60 x1041006_1.length co60 : Value).ownBlock) s_.2 t1050) ∧ (Kd.S (Kd.slice 5 (Kd.int .u8)) 29 w' w.heap.size (fun k_ => some k_ ≠ (s_.1 : Value).ownBlock) (.slice Ao59 x1041000_1.length co59) x1041000_1) ∧ (Kd.R (Kd.int .i64) 3 w' w.heap.size (fun k_ => some k_ ≠ (s_.2 : Value).ownBlock) (.slice Ao60 x1041006_1.length co60) x1041006_1) ∧ (Kd.R k32 32 w' w.heap.size (fun _ => True) u7 x7_1) ∧ (w'.heap[gb1023]? = some (.cells #[.slice A0_0 l0_0.length c0_0, .int .i64 a0_1, .int .i64 a0_2, .int .i64 a0_3, .int .i64 a0_4, .int .i64 a0_5, .slice A0_6 l0_6.length c0_6] 70 (0, 0))) ∧ (w'.heap[gb1024]? = some (.cells #[.slice none 0 0, .int .i64 x1025001_1, .int .i64 x1025002_1, .int .i64 x1025003_1, .int .i64 x1025004_1, .int .i64 x1025005_1, .slice none 0 0] 70 (0, 0))) ∧ (w'.heap[gb1040]? = some (.cells #[.slice Ao59 x1041000_1.length co59, .int .i64 x1041001_1, .int .i64 x1041002_1, .int .i64 x1041003_1, .int .i64 x1041004_1, .int .i64 x1041005_1, .slice Ao60 x1041006_1.length co60] 70 (0, 0))) ∧ (Below w.heap.size w w')) ?_ ?_
           rotate_left
           ·intro hJ5
            refine join_ (σ := Nat) 9 #[true, true, true, true, true, false, false, false, false, false, true, false, false, false, false] (fun s_ => [(10, .pointer (some ⟨s_, 0, none⟩))]) (fun s_ w' => (w'.cell? ⟨gb1040, 0, none⟩ = some (.slice Ao59 x1041000_1.length co59) ∧ w'.cell? ⟨gb1040, 1, none⟩ = some (.int .i64 x1041001_1) ∧ w'.cell? ⟨gb1040, 2, none⟩ = some (.int .i64 x1041002_1) ∧ w'.cell? ⟨gb1040, 3, none⟩ = some (.int .i64 x1041003_1) ∧ w'.cell? ⟨gb1040, 4, none⟩ = some (.int .i64 x1041004_1) ∧ w'.cell? ⟨gb1040, 5, none⟩ = some (.int .i64 x1041005_1) ∧ w'.cell? ⟨gb1040, 6, none⟩ = some (.slice Ao60 x1041006_1.length co60) ∧ w'.cell? (ad1041.add ((x9_1).toNat * 2)) = some (.int .i64 ((rd_T74 l1 x9_1).f0)) ∧ w'.cell? ⟨(ad1041.add ((x9_1).toNat * 2)).block, (ad1041.add ((x9_1).toNat * 2)).off + 1, none⟩ = some (.int .i64 ((rd_T74 l1 x9_1).f1))) ∧ (Kd.S (Kd.slice 5 (Kd.int .u8)) 29 w' w.heap.size (fun _ => True) (.slice Ao59 x1041000_1.length co59) x1041000_1) ∧ (Kd.R (Kd.int .i64) 3 w' w.heap.size (fun _ => True) (.slice Ao60 x1041006_1.length co60) x1041006_1) ∧ (Kd.R k32 32 w' w.heap.size (fun _ => True) u7 x7_1) ∧ (w'.heap[gb1023]? = some (.cells #[.slice A0_0 l0_0.length c0_0, .int .i64 a0_1, .int .i64 a0_2, .int .i64 a0_3, .int .i64 a0_4, .int .i64 a0_5, .slice A0_6 l0_6.length c0_6] 70 (0, 0))) ∧ (w'.heap[gb1024]? = some (.cells #[.slice none 0 0, .int .i64 x1025001_1, .int .i64 x1025002_1, .int .i64 x1025003_1, .int .i64 x1025004_1, .int .i64 x1025005_1, .slice none 0 0] 70 (0, 0))) ∧ (w'.heap[gb1040]? = some (.cells #[.slice Ao59 x1041000_1.length co59, .int .i64 x1041001_1, .int .i64 x1041002_1, .int .i64 x1041003_1, .int .i64 x1041004_1, .int .i64 x1041005_1, .slice Ao60 x1041006_1.length co60] 70 (0, 0))) ∧ (w'.heap[s_]? = some (.cells #[.slice none 0 0, .int .i64 0, .int .i64 0, .int .i64 0, .int .i64 0, .int .i64 0, .slice none 0 0] 70 (0, 0))) ∧ (w.heap.size ≤ s_) ∧ (w.heap.size ≤ s_) ∧ (gb1023 ≠ s_) ∧ (s_ ≠ gb1023) ∧ (gb1024 ≠ s_) ∧ (s_ ≠ gb1024) ∧ (gb1040 ≠ s_) ∧ (s_ ≠ gb1040) ∧ (Below w.heap.size w w')) ?_ ?_
            rotate_left
            ·intro hJ10
             refine join_ (σ := Nat) 9 #[true, true, true, true, true, false, false, false, false, false, false, true, false, false, false] (fun s_ => [(11, .pointer (some ⟨s_, 0, none⟩))]) (fun s_ w' => (w'.cell? ⟨gb1040, 0, none⟩ = some (.slice Ao59 x1041000_1.length co59) ∧ w'.cell? ⟨gb1040, 1, none⟩ = some (.int .i64 x1041001_1) ∧ w'.cell? ⟨gb1040, 2, none⟩ = some (.int .i64 x1041002_1) ∧ w'.cell? ⟨gb1040, 3, none⟩ = some (.int .i64 x1041003_1) ∧ w'.cell? ⟨gb1040, 4, none⟩ = some (.int .i64 x1041004_1) ∧ w'.cell? ⟨gb1040, 5, none⟩ = some (.int .i64 x1041005_1) ∧ w'.cell? ⟨gb1040, 6, none⟩ = some (.slice Ao60 x1041006_1.length co60) ∧ w'.cell? (ad1041.add ((x9_1).toNat * 2)) = some (.int .i64 ((rd_T74 l1 x9_1).f0)) ∧ w'.cell? ⟨(ad1041.add ((x9_1).toNat * 2)).block, (ad1041.add ((x9_1).toNat * 2)).off + 1, none⟩ = some (.int .i64 ((rd_T74 l1 x9_1).f1))) ∧ (Kd.S (Kd.slice 5 (Kd.int .u8)) 29 w' w.heap.size (fun _ => True) (.slice Ao59 x1041000_1.length co59) x1041000_1) ∧ (Kd.R (Kd.int .i64) 3 w' w.heap.size (fun _ => True) (.slice Ao60 x1041006_1.length co60) x1041006_1) ∧ (Kd.R k32 32 w' w.heap.size (fun k_ => k_ ≠ s_) u7 x7_1) ∧ (w'.heap[gb1023]? = some (.cells #[.slice A0_0 l0_0.length c0_0, .int .i64 a0_1, .int .i64 a0_2, .int .i64 a0_3, .int .i64 a0_4, .int .i64 a0_5, .slice A0_6 l0_6.length c0_6] 70 (0, 0))) ∧ (w'.heap[gb1024]? = some (.cells #[.slice none 0 0, .int .i64 x1025001_1, .int .i64 x1025002_1, .int .i64 x1025003_1, .int .i64 x1025004_1, .int .i64 x1025005_1, .slice none 0 0] 70 (0, 0))) ∧ (w'.heap[gb1040]? = some (.cells #[.slice Ao59 x1041000_1.length co59, .int .i64 x1041001_1, .int .i64 x1041002_1, .int .i64 x1041003_1, .int .i64 x1041004_1, .int .i64 x1041005_1, .slice Ao60 x1041006_1.length co60] 70 (0, 0))) ∧ (w'.heap[s_]? = some (.cells #[.int .i64 0, .int .i64 0, .int .i64 0, .int .i64 0] 32 (0, 0))) ∧ (w.heap.size ≤ s_) ∧ (w.heap.size ≤ s_) ∧ (gb1023 ≠ s_) ∧ (s_ ≠ gb1023) ∧ (gb1024 ≠ s_) ∧ (s_ ≠ gb1024) ∧ (gb1040 ≠ s_) ∧ (s_ ≠ gb1040) ∧ (Below w.heap.size w w')) ?_ ?_
             rotate_left
             ·intro hJ11
              refine three_ (i := 5) (j := 10) (k := 11) (Ni := some 36) (Nj := some 10) (Nk := some 11) #[true, true, true, true, true, true, false, false, false, false, false, false, false, false, false] #[true, true, true, true, true, false, false, false, false, false, true, false, false, false, false] #[true, true, true, true, true, false, false, false, false, false, false, true, false, false, false] rfl rfl rfl rfl rfl rfl (three_of HT_.out (by kernel_rfl)) (by decide) (by decide) (by decide) (fun K hK => ?_) (fun K hK => ?_) (fun K hK => ?_)
              ·skip
               refine goes_ Try.func36 (by kernel_rfl) rfl #[.agg #[.slice Ao59 x1041000_1.length co59, .int .i64 x1041001_1, .int .i64 x1041002_1, .int .i64 x1041003_1, .int .i64 x1041004_1, .int .i64 x1041005_1, .slice Ao60 x1041006_1.length co60], .agg #[.int .i64 ((rd_T74 l1 x9_1).f0), .int .i64 ((rd_T74 l1 x9_1).f1)]] (by rfl) rfl rfl ar_ ?_
               with_reducible refine (spec_Give.calls k1 _ _ x1041000_1 x1041001_1 x1041002_1 x1041003_1 x1041004_1 x1041005_1 _ _ x1041006_1 ((rd_T74 l1 x9_1).f0) ((rd_T74 l1 x9_1).f1) t1042 t1045 t1046 t1047 t1048 t1049 t1050 t1053 t1054 t1055 t1056 false _ ?side1 ?side2 ?side3 ?side4 A23.out).mono ?_
               (case side1 => repeat (first | exact (Kd.S_reads' HO_1041000.out).2.2 | (with_reducible refine Kd.C_alloc ?_ _) | (with_reducible refine Kd.C_drewN ?_ _) | (with_reducible refine Kd.C_drew ?_)))
               (case side2 => exact (Kd.S_reads' HO_1041000.out).2.1)
               (case side3 => repeat (first | exact (Kd.R_reads' HO_1041006.out).2.2 | (with_reducible refine Kd.C_alloc ?_ _) | (with_reducible refine Kd.C_drewN ?_ _) | (with_reducible refine Kd.C_drew ?_)))
               (case side4 => exact (Kd.R_reads' HO_1041006.out).2.1)
               rintro e w62 ⟨v1043, v1051, rfl, ho0, ho1, hb⟩
               refine ⟨_, rfl, ?_⟩
               replace HO_7 := Aside0.mk (Kd.R_below (rK_ HO_7) hb)
               have HO1044 := Aside0.mk (sL_ (Kd.S_new' ho0 (Kd.S_lt (sK_ HO_1041000))) HB)
               replace HO_1041000 := Aside0.mk (Kd.S_elder' (sK_ HO_1041000) (Kd.S_base ho0) hb)
               have HO1052 := Aside0.mk (rL_ (Kd.R_new' ho1 (Kd.R_lt (rK_ HO_1041006))) HB)
               replace HO_1041006 := Aside0.mk (Kd.R_elder' (rK_ HO_1041006) (Kd.R_base ho1) hb)
               replace BK1023 := bB_ BK1023 hb
               replace BK1024 := bB_ BK1024 hb
               replace BK1040 := bB_ BK1040 hb
               replace HB := Aside0.mk (below_step (by repeat (first | (with_reducible first | exact HB.out | apply ba_ | apply bn_ | apply bd_ | refine bset_ ?_ (by assumption)) | exact HB.out)) hb)
               (try clear hb)
               (try clear hb2)
               (try clear hk)
               (try clear hi)
               (try clear ho0)
               (try clear ho1)
               refine hK.out _ _ ⟨(blk_cell BK1040.out 0).trans rfl, (blk_cell BK1040.out 1).trans rfl, (blk_cell BK1040.out 2).trans rfl, (blk_cell BK1040.out 3).trans rfl, (blk_cell BK1040.out 4).trans rfl, (blk_cell BK1040.out 5).trans rfl, (blk_cell BK1040.out 6).trans rfl, ((HB.out.cell (World.block_lt_of_cell? w _ hw1041_0)).trans hw1041_0), ((HB.out.cell (World.block_lt_of_cell? w _ hw1041_1)).trans hw1041_1)⟩ (fun hHeld => ?_)
               clear hK K
               refine norm_ (a' := ?_) ?_ ?_
               rotate_left
               ·show Act.put _ (some 36) _ = _
                simp only [Act.put, List.setIfInBounds_toArray, List.set_cons_zero, List.set_cons_succ, i64_w, i32_w]
                rfl
               refine pure_ (i := 6) (N := some 30) (v := ?_) (a' := ?_) #[true, true, true, true, true, true, true, false, false, false, false, false, false, false, false] rfl rfl (any_of HT_.out (by kernel_rfl)) (fun _ _ _ h => h) (Or.inl ⟨by rfl, ?_⟩) ?_ ?_
               rotate_left
               ·intro w'
                go_simp
                with_reducible rfl
               rotate_left
               ·simp only [Act.put, List.setIfInBounds_toArray, List.set_cons_zero, List.set_cons_succ, i64_w, i32_w]
                rfl
               refine pure_ (i := 7) (N := some 37) (v := ?_) (a' := ?_) #[true, true, true, true, true, true, true, true, false, false, false, false, false, false, false] rfl rfl (any_of HT_.out (by kernel_rfl)) (fun _ _ _ h => h) (Or.inl ⟨by rfl, ?_⟩) ?_ ?_
               rotate_left
               ·intro w'
                go_simp
                with_reducible rfl
               rotate_left
               ·simp only [Act.put, List.setIfInBounds_toArray, List.set_cons_zero, List.set_cons_succ, i64_w, i32_w]
                rfl
               refine pure_ (i := 8) (N := some 38) (v := ?_) (a' := ?_) #[true, true, true, true, true, true, true, true, true, false, false, false, false, false, false] rfl rfl (any_of HT_.out (by kernel_rfl)) (fun _ _ _ h => h) (Or.inl ⟨by rfl, ?_⟩) ?_ ?_
               rotate_left
               ·intro w'
                go_simp
                with_reducible rfl
               rotate_left
               ·simp only [Act.put, List.setIfInBounds_toArray, List.set_cons_zero, List.set_cons_succ, i64_w, i32_w]
                rfl
               refine pure_ (i := 9) (N := some 39) (v := ?_) (a' := ?_) #[true, true, true, true, true, true, true, true, true, true, false, false, false, false, false] rfl rfl (any_of HT_.out (by kernel_rfl)) (fun _ _ _ h => h) (Or.inl ⟨by rfl, ?_⟩) ?_ ?_
               rotate_left
               ·intro w'
                go_simp
                with_reducible rfl
               rotate_left
               ·simp only [Act.put, List.setIfInBounds_toArray, List.set_cons_zero, List.set_cons_succ, i64_w, i32_w]
                rfl
               exact norm_ (by first | (simp only [putAll, Act.put, List.setIfInBounds_toArray, List.set_cons_zero, List.set_cons_succ]; done) | (simp only [putAll, Act.put, List.setIfInBounds_toArray, List.set_cons_zero, List.set_cons_succ]; rfl)) (hJ5 (v1043, v1051) _ ⟨hHeld, (by (with_reducible repeat first | apply ks1_ | apply ks2_ | apply ks3_); exact Kd.S_mono HO1044.out (fun _ hk => hk.2)), (by (with_reducible repeat first | apply kr1_ | apply kr2_ | apply kr3_); exact Kd.R_mono HO1052.out (fun _ hk => hk.2)), (by (with_reducible repeat first | apply ks1_ | apply ks2_ | apply ks3_); exact Kd.S_mono HO_1041000.out (fun _ hk => hk.2)), (by (with_reducible repeat first | apply kr1_ | apply kr2_ | apply kr3_); exact Kd.R_mono HO_1041006.out (fun _ hk => hk.2)), (rK_ HO_7), (bK_ BK1023), (bK_ BK1024), (bK_ BK1040), (by repeat (first | (with_reducible first | exact HB.out | apply ba_ | apply bn_ | apply bd_ | refine bset_ ?_ (by assumption)) | exact HB.out))⟩)
              ·skip
               refine box_step ?hg (N := 10) ?hd (cs := #[.slice none 0 0, .int .i64 0, .int .i64 0, .int .i64 0, .int .i64 0, .int .i64 0, .slice none 0 0]) (t := 70) ?hr ?_; (case hd => rfl); (case hg => rfl); (case hr => exact gs_)
               intro gb1058 hg w62 hbox hb
               replace HO_7 := Aside0.mk (Kd.R_below (rK_ HO_7) hb)
               replace HO_1041000 := Aside0.mk (Kd.S_below (sK_ HO_1041000) hb)
               replace HO_1041006 := Aside0.mk (Kd.R_below (rK_ HO_1041006) hb)
               have BK1058 := Aside0.mk (hbox)
               have GW1058 := gE_ HB hg
               have GE1058 := gE_ HB hg
               replace HB := Aside0.mk (below_step (by repeat (first | (with_reducible first | exact HB.out | apply ba_ | apply bn_ | apply bd_ | refine bset_ ?_ (by assumption)) | exact HB.out)) hb)
               have NB1023_1058 := nB_ BK1023 hg
               have NB1058_1023 := nA_ BK1023 hg
               replace BK1023 := bB_ BK1023 hb
               have NB1024_1058 := nB_ BK1024 hg
               have NB1058_1024 := nA_ BK1024 hg
               replace BK1024 := bB_ BK1024 hb
               have NB1040_1058 := nB_ BK1040 hg
               have NB1058_1040 := nA_ BK1040 hg
               replace BK1040 := bB_ BK1040 hb
               clear hb hbox hg
               refine hK.out _ _ ⟨(blk_cell BK1040.out 0).trans rfl, (blk_cell BK1040.out 1).trans rfl, (blk_cell BK1040.out 2).trans rfl, (blk_cell BK1040.out 3).trans rfl, (blk_cell BK1040.out 4).trans rfl, (blk_cell BK1040.out 5).trans rfl, (blk_cell BK1040.out 6).trans rfl, ((HB.out.cell (World.block_lt_of_cell? w _ hw1041_0)).trans hw1041_0), ((HB.out.cell (World.block_lt_of_cell? w _ hw1041_1)).trans hw1041_1)⟩ (fun hHeld => ?_)
               clear hK K
               refine norm_ (a' := ?_) ?_ ?_
               rotate_left
               ·show Act.put _ (some 10) _ = _
                simp only [Act.put, List.setIfInBounds_toArray, List.set_cons_zero, List.set_cons_succ, i64_w, i32_w]
                rfl
               exact norm_ (by first | (simp only [putAll, Act.put, List.setIfInBounds_toArray, List.set_cons_zero, List.set_cons_succ]; done) | (simp only [putAll, Act.put, List.setIfInBounds_toArray, List.set_cons_zero, List.set_cons_succ]; rfl)) (hJ10 (gb1058) _ ⟨hHeld, (sK_ HO_1041000), (rK_ HO_1041006), (rK_ HO_7), (bK_ BK1023), (bK_ BK1024), (bK_ BK1040), (bK_ BK1058), GW1058.out, GE1058.out, NB1023_1058.out, NB1058_1023.out, NB1024_1058.out, NB1058_1024.out, NB1040_1058.out, NB1058_1040.out, (by repeat (first | (with_reducible first | exact HB.out | apply ba_ | apply bn_ | apply bd_ | refine bset_ ?_ (by assumption)) | exact HB.out))⟩)
              ·skip
               refine box_step ?hg (N := 11) ?hd (cs := #[.int .i64 0, .int .i64 0, .int .i64 0, .int .i64 0]) (t := 32) ?hr ?_; (case hd => rfl); (case hg => rfl); (case hr => exact gs_)
               intro gb1059 hg w62 hbox hb
               replace HO_7 := Aside0.mk (Kd.R_below (Kd.R_elderB (rK_ HO_7) gb1059 (Nat.le_of_eq hg.symm)) hb)
               replace HO_1041000 := Aside0.mk (Kd.S_below (sK_ HO_1041000) hb)
               replace HO_1041006 := Aside0.mk (Kd.R_below (rK_ HO_1041006) hb)
               have BK1059 := Aside0.mk (hbox)
               have GW1059 := gE_ HB hg
               have GE1059 := gE_ HB hg
               replace HB := Aside0.mk (below_step (by repeat (first | (with_reducible first | exact HB.out | apply ba_ | apply bn_ | apply bd_ | refine bset_ ?_ (by assumption)) | exact HB.out)) hb)
               have NB1023_1059 := nB_ BK1023 hg
               have NB1059_1023 := nA_ BK1023 hg
               replace BK1023 := bB_ BK1023 hb
               have NB1024_1059 := nB_ BK1024 hg
               have NB1059_1024 := nA_ BK1024 hg
               replace BK1024 := bB_ BK1024 hb
               have NB1040_1059 := nB_ BK1040 hg
               have NB1059_1040 := nA_ BK1040 hg
               replace BK1040 := bB_ BK1040 hb
               clear hb hbox hg
               refine hK.out _ _ ⟨(blk_cell BK1040.out 0).trans rfl, (blk_cell BK1040.out 1).trans rfl, (blk_cell BK1040.out 2).trans rfl, (blk_cell BK1040.out 3).trans rfl, (blk_cell BK1040.out 4).trans rfl, (blk_cell BK1040.out 5).trans rfl, (blk_cell BK1040.out 6).trans rfl, ((HB.out.cell (World.block_lt_of_cell? w _ hw1041_0)).trans hw1041_0), ((HB.out.cell (World.block_lt_of_cell? w _ hw1041_1)).trans hw1041_1)⟩ (fun hHeld => ?_)
               clear hK K
               refine norm_ (a' := ?_) ?_ ?_
               rotate_left
               ·show Act.put _ (some 11) _ = _
                simp only [Act.put, List.setIfInBounds_toArray, List.set_cons_zero, List.set_cons_succ, i64_w, i32_w]
                rfl
               exact norm_ (by first | (simp only [putAll, Act.put, List.setIfInBounds_toArray, List.set_cons_zero, List.set_cons_succ]; done) | (simp only [putAll, Act.put, List.setIfInBounds_toArray, List.set_cons_zero, List.set_cons_succ]; rfl)) (hJ11 (gb1059) _ ⟨hHeld, (sK_ HO_1041000), (rK_ HO_1041006), (by (with_reducible repeat first | apply kr1_ | apply kr2_ | apply kr3_); exact Kd.R_mono HO_7.out (fun _ hk => hk.2)), (bK_ BK1023), (bK_ BK1024), (bK_ BK1040), (bK_ BK1059), GW1059.out, GE1059.out, NB1023_1059.out, NB1059_1023.out, NB1024_1059.out, NB1059_1024.out, NB1040_1059.out, NB1059_1040.out, (by repeat (first | (with_reducible first | exact HB.out | apply ba_ | apply bn_ | apply bd_ | refine bset_ ?_ (by assumption)) | exact HB.out))⟩)
             ·skip
              rintro gb1059 w63 ⟨hS_, h0_, h1_, h2_, h3_, h4_, h5_, h6_, h7_, h8_, h9_, h10_, h11_, h12_, h13_, h14_, h15_⟩
              have n0_ : Aside0 (Kd.S (Kd.slice 5 (Kd.int .u8)) 29 w63 w.heap.size (fun _ => True) (.slice Ao59 x1041000_1.length co59) x1041000_1) := ⟨h0_⟩
              have n1_ : Aside0 (Kd.R (Kd.int .i64) 3 w63 w.heap.size (fun _ => True) (.slice Ao60 x1041006_1.length co60) x1041006_1) := ⟨h1_⟩
              have n2_ : Aside0 (Kd.R k32 32 w63 w.heap.size (fun k_ => k_ ≠ gb1059) u7 x7_1) := ⟨h2_⟩
              have n3_ : Aside0 (w63.heap[gb1023]? = some (.cells #[.slice A0_0 l0_0.length c0_0, .int .i64 a0_1, .int .i64 a0_2, .int .i64 a0_3, .int .i64 a0_4, .int .i64 a0_5, .slice A0_6 l0_6.length c0_6] 70 (0, 0))) := ⟨h3_⟩
              have n4_ : Aside0 (w63.heap[gb1024]? = some (.cells #[.slice none 0 0, .int .i64 x1025001_1, .int .i64 x1025002_1, .int .i64 x1025003_1, .int .i64 x1025004_1, .int .i64 x1025005_1, .slice none 0 0] 70 (0, 0))) := ⟨h4_⟩
              have n5_ : Aside0 (w63.heap[gb1040]? = some (.cells #[.slice Ao59 x1041000_1.length co59, .int .i64 x1041001_1, .int .i64 x1041002_1, .int .i64 x1041003_1, .int .i64 x1041004_1, .int .i64 x1041005_1, .slice Ao60 x1041006_1.length co60] 70 (0, 0))) := ⟨h5_⟩
              have n6_ : Aside0 (w63.heap[gb1059]? = some (.cells #[.int .i64 0, .int .i64 0, .int .i64 0, .int .i64 0] 32 (0, 0))) := ⟨h6_⟩
              have n7_ : Aside0 (w.heap.size ≤ gb1059) := ⟨h7_⟩
              have n8_ : Aside0 (w.heap.size ≤ gb1059) := ⟨h8_⟩
              have n9_ : Aside0 (gb1023 ≠ gb1059) := ⟨h9_⟩
              have n10_ : Aside0 (gb1059 ≠ gb1023) := ⟨h10_⟩
              have n11_ : Aside0 (gb1024 ≠ gb1059) := ⟨h11_⟩
              have n12_ : Aside0 (gb1059 ≠ gb1024) := ⟨h12_⟩
              have n13_ : Aside0 (gb1040 ≠ gb1059) := ⟨h13_⟩
              have n14_ : Aside0 (gb1059 ≠ gb1040) := ⟨h14_⟩
              have n15_ : Aside0 (Below w.heap.size w w63) := ⟨h15_⟩
              clear HO_7
              clear HO_1041000
              clear HO_1041006
              clear BK1023
              clear BK1024
              clear BK1040
              clear HB
              clear h0_ h1_ h2_ h3_ h4_ h5_ h6_ h7_ h8_ h9_ h10_ h11_ h12_ h13_ h14_ h15_
              have HO_1041000 := n0_
              have HO_1041006 := n1_
              have HO_7 := n2_
              have BK1023 := n3_
              have BK1024 := n4_
              have BK1040 := n5_
              have BK1059 := n6_
              have GW1059 := n7_
              have GE1059 := n8_
              have NB1023_1059 := n9_
              have NB1059_1023 := n10_
              have NB1024_1059 := n11_
              have NB1059_1024 := n12_
              have NB1040_1059 := n13_
              have NB1059_1040 := n14_
              have HB := n15_
              clear n0_ n1_ n2_ n3_ n4_ n5_ n6_ n7_ n8_ n9_ n10_ n11_ n12_ n13_ n14_ n15_
              have hHeld := hS_
              refine norm_ (a' := ?_) ?_ ?_
              rotate_left
              ·simp only [putAll, Act.put, List.setIfInBounds_toArray, List.set_cons_zero, List.set_cons_succ]
               rfl
              refine two_ (i := 5) (j := 10) (Ni := some 36) (Nj := some 10) #[true, true, true, true, true, true, false, false, false, false, false, true, false, false, false] #[true, true, true, true, true, false, false, false, false, false, true, true, false, false, false] rfl rfl rfl rfl (two_of HT_.out (by kernel_rfl)) (by decide) (by decide) (fun K hK => ?_) (fun K hK => ?_)
              ·skip
               refine goes_ Try.func36 (by kernel_rfl) rfl #[.agg #[.slice Ao59 x1041000_1.length co59, .int .i64 x1041001_1, .int .i64 x1041002_1, .int .i64 x1041003_1, .int .i64 x1041004_1, .int .i64 x1041005_1, .slice Ao60 x1041006_1.length co60], .agg #[.int .i64 ((rd_T74 l1 x9_1).f0), .int .i64 ((rd_T74 l1 x9_1).f1)]] (by rfl) rfl rfl ar_ ?_
               with_reducible refine (spec_Give.calls k1 _ _ x1041000_1 x1041001_1 x1041002_1 x1041003_1 x1041004_1 x1041005_1 _ _ x1041006_1 ((rd_T74 l1 x9_1).f0) ((rd_T74 l1 x9_1).f1) t1042 t1045 t1046 t1047 t1048 t1049 t1050 t1053 t1054 t1055 t1056 false _ ?side1 ?side2 ?side3 ?side4 A23.out).mono ?_
               (case side1 => repeat (first | exact (Kd.S_reads' HO_1041000.out).2.2 | (with_reducible refine Kd.C_alloc ?_ _) | (with_reducible refine Kd.C_drewN ?_ _) | (with_reducible refine Kd.C_drew ?_)))
               (case side2 => exact (Kd.S_reads' HO_1041000.out).2.1)
               (case side3 => repeat (first | exact (Kd.R_reads' HO_1041006.out).2.2 | (with_reducible refine Kd.C_alloc ?_ _) | (with_reducible refine Kd.C_drewN ?_ _) | (with_reducible refine Kd.C_drew ?_)))
               (case side4 => exact (Kd.R_reads' HO_1041006.out).2.1)
               rintro e w64 ⟨v1043, v1051, rfl, ho0, ho1, hb⟩
               refine ⟨_, rfl, ?_⟩
               replace HO_7 := Aside0.mk (Kd.R_below (rK_ HO_7) hb)
               have HO1044 := Aside0.mk (sL_ (Kd.S_new' ho0 (Kd.S_lt (sK_ HO_1041000))) HB)
               replace HO_1041000 := Aside0.mk (Kd.S_elder' (sK_ HO_1041000) (Kd.S_base ho0) hb)
               have HO1052 := Aside0.mk (rL_ (Kd.R_new' ho1 (Kd.R_lt (rK_ HO_1041006))) HB)
               replace HO_1041006 := Aside0.mk (Kd.R_elder' (rK_ HO_1041006) (Kd.R_base ho1) hb)
               replace BK1023 := bB_ BK1023 hb
               replace BK1024 := bB_ BK1024 hb
               replace BK1040 := bB_ BK1040 hb
               replace BK1059 := bB_ BK1059 hb
               replace HB := Aside0.mk (below_step (by repeat (first | (with_reducible first | exact HB.out | apply ba_ | apply bn_ | apply bd_ | refine bset_ ?_ (by assumption)) | exact HB.out)) hb)
               (try clear hb)
               (try clear hb2)
               (try clear hk)
               (try clear hi)
               (try clear ho0)
               (try clear ho1)
               refine hK.out _ _ ⟨(blk_cell BK1040.out 0).trans rfl, (blk_cell BK1040.out 1).trans rfl, (blk_cell BK1040.out 2).trans rfl, (blk_cell BK1040.out 3).trans rfl, (blk_cell BK1040.out 4).trans rfl, (blk_cell BK1040.out 5).trans rfl, (blk_cell BK1040.out 6).trans rfl, ((HB.out.cell (World.block_lt_of_cell? w _ hw1041_0)).trans hw1041_0), ((HB.out.cell (World.block_lt_of_cell? w _ hw1041_1)).trans hw1041_1)⟩ (fun hHeld => ?_)
               clear hK K
               refine norm_ (a' := ?_) ?_ ?_
               rotate_left
               ·show Act.put _ (some 36) _ = _
                simp only [Act.put, List.setIfInBounds_toArray, List.set_cons_zero, List.set_cons_succ, i64_w, i32_w]
                rfl
               refine pure_ (i := 6) (N := some 30) (v := ?_) (a' := ?_) #[true, true, true, true, true, true, true, false, false, false, false, true, false, false, false] rfl rfl (any_of HT_.out (by kernel_rfl)) (fun _ _ _ h => h) (Or.inl ⟨by rfl, ?_⟩) ?_ ?_
               rotate_left
               ·intro w'
                go_simp
                with_reducible rfl
               rotate_left
               ·simp only [Act.put, List.setIfInBounds_toArray, List.set_cons_zero, List.set_cons_succ, i64_w, i32_w]
                rfl
               refine pure_ (i := 7) (N := some 37) (v := ?_) (a' := ?_) #[true, true, true, true, true, true, true, true, false, false, false, true, false, false, false] rfl rfl (any_of HT_.out (by kernel_rfl)) (fun _ _ _ h => h) (Or.inl ⟨by rfl, ?_⟩) ?_ ?_
               rotate_left
               ·intro w'
                go_simp
                with_reducible rfl
               rotate_left
               ·simp only [Act.put, List.setIfInBounds_toArray, List.set_cons_zero, List.set_cons_succ, i64_w, i32_w]
                rfl
               refine pure_ (i := 8) (N := some 38) (v := ?_) (a' := ?_) #[true, true, true, true, true, true, true, true, true, false, false, true, false, false, false] rfl rfl (any_of HT_.out (by kernel_rfl)) (fun _ _ _ h => h) (Or.inl ⟨by rfl, ?_⟩) ?_ ?_
               rotate_left
               ·intro w'
                go_simp
                with_reducible rfl
               rotate_left
               ·simp only [Act.put, List.setIfInBounds_toArray, List.set_cons_zero, List.set_cons_succ, i64_w, i32_w]
                rfl
               refine pure_ (i := 9) (N := some 39) (v := ?_) (a' := ?_) #[true, true, true, true, true, true, true, true, true, true, false, true, false, false, false] rfl rfl (any_of HT_.out (by kernel_rfl)) (fun _ _ _ h => h) (Or.inl ⟨by rfl, ?_⟩) ?_ ?_
               rotate_left
               ·intro w'
                go_simp
                with_reducible rfl
               rotate_left
               ·simp only [Act.put, List.setIfInBounds_toArray, List.set_cons_zero, List.set_cons_succ, i64_w, i32_w]
                rfl
               exact norm_ (by first | (simp only [putAll, Act.put, List.setIfInBounds_toArray, List.set_cons_zero, List.set_cons_succ]; done) | (simp only [putAll, Act.put, List.setIfInBounds_toArray, List.set_cons_zero, List.set_cons_succ]; rfl)) (hJ5_11 (v1043, v1051, gb1059) _ ⟨hHeld, (by (with_reducible repeat first | apply ks1_ | apply ks2_ | apply ks3_); exact Kd.S_mono HO1044.out (fun _ hk => hk.2)), (by (with_reducible repeat first | apply kr1_ | apply kr2_ | apply kr3_); exact Kd.R_mono HO1052.out (fun _ hk => hk.2)), (by (with_reducible repeat first | apply ks1_ | apply ks2_ | apply ks3_); exact Kd.S_mono HO_1041000.out (fun _ hk => hk.2)), (by (with_reducible repeat first | apply kr1_ | apply kr2_ | apply kr3_); exact Kd.R_mono HO_1041006.out (fun _ hk => hk.2)), (rK_ HO_7), (bK_ BK1023), (bK_ BK1024), (bK_ BK1040), (bK_ BK1059), GW1059.out, GE1059.out, NB1023_1059.out, NB1059_1023.out, NB1024_1059.out, NB1059_1024.out, NB1040_1059.out, NB1059_1040.out, (by repeat (first | (with_reducible first | exact HB.out | apply ba_ | apply bn_ | apply bd_ | refine bset_ ?_ (by assumption)) | exact HB.out))⟩)
              ·skip
               refine box_step ?hg (N := 10) ?hd (cs := #[.slice none 0 0, .int .i64 0, .int .i64 0, .int .i64 0, .int .i64 0, .int .i64 0, .slice none 0 0]) (t := 70) ?hr ?_; (case hd => rfl); (case hg => rfl); (case hr => exact gs_)
               intro gb1058 hg w64 hbox hb
               replace HO_7 := Aside0.mk (Kd.R_below (rK_ HO_7) hb)
               replace HO_1041000 := Aside0.mk (Kd.S_below (sK_ HO_1041000) hb)
               replace HO_1041006 := Aside0.mk (Kd.R_below (rK_ HO_1041006) hb)
               have BK1058 := Aside0.mk (hbox)
               have GW1058 := gE_ HB hg
               have GE1058 := gE_ HB hg
               replace HB := Aside0.mk (below_step (by repeat (first | (with_reducible first | exact HB.out | apply ba_ | apply bn_ | apply bd_ | refine bset_ ?_ (by assumption)) | exact HB.out)) hb)
               have NB1023_1058 := nB_ BK1023 hg
               have NB1058_1023 := nA_ BK1023 hg
               replace BK1023 := bB_ BK1023 hb
               have NB1024_1058 := nB_ BK1024 hg
               have NB1058_1024 := nA_ BK1024 hg
               replace BK1024 := bB_ BK1024 hb
               have NB1040_1058 := nB_ BK1040 hg
               have NB1058_1040 := nA_ BK1040 hg
               replace BK1040 := bB_ BK1040 hb
               have NB1059_1058 := nB_ BK1059 hg
               have NB1058_1059 := nA_ BK1059 hg
               replace BK1059 := bB_ BK1059 hb
               clear hb hbox hg
               refine hK.out _ _ ⟨(blk_cell BK1040.out 0).trans rfl, (blk_cell BK1040.out 1).trans rfl, (blk_cell BK1040.out 2).trans rfl, (blk_cell BK1040.out 3).trans rfl, (blk_cell BK1040.out 4).trans rfl, (blk_cell BK1040.out 5).trans rfl, (blk_cell BK1040.out 6).trans rfl, ((HB.out.cell (World.block_lt_of_cell? w _ hw1041_0)).trans hw1041_0), ((HB.out.cell (World.block_lt_of_cell? w _ hw1041_1)).trans hw1041_1)⟩ (fun hHeld => ?_)
               clear hK K
               refine norm_ (a' := ?_) ?_ ?_
               rotate_left
               ·show Act.put _ (some 10) _ = _
                simp only [Act.put, List.setIfInBounds_toArray, List.set_cons_zero, List.set_cons_succ, i64_w, i32_w]
                rfl
               exact norm_ (by first | (simp only [putAll, Act.put, List.setIfInBounds_toArray, List.set_cons_zero, List.set_cons_succ]; done) | (simp only [putAll, Act.put, List.setIfInBounds_toArray, List.set_cons_zero, List.set_cons_succ]; rfl)) (hJ10_11 (gb1058, gb1059) _ ⟨hHeld, (sK_ HO_1041000), (rK_ HO_1041006), (rK_ HO_7), (bK_ BK1023), (bK_ BK1024), (bK_ BK1040), (bK_ BK1058), (bK_ BK1059), GW1058.out, GE1058.out, NB1023_1058.out, NB1058_1023.out, NB1024_1058.out, NB1058_1024.out, NB1040_1058.out, NB1058_1040.out, NB1059_1058.out, NB1058_1059.out, GW1059.out, GE1059.out, NB1023_1059.out, NB1059_1023.out, NB1024_1059.out, NB1059_1024.out, NB1040_1059.out, NB1059_1040.out, (by repeat (first | (with_reducible first | exact HB.out | apply ba_ | apply bn_ | apply bd_ | refine bset_ ?_ (by assumption)) | exact HB.out))⟩)
            ·skip
             rintro gb1058 w63 ⟨hS_, h0_, h1_, h2_, h3_, h4_, h5_, h6_, h7_, h8_, h9_, h10_, h11_, h12_, h13_, h14_, h15_⟩
             have n0_ : Aside0 (Kd.S (Kd.slice 5 (Kd.int .u8)) 29 w63 w.heap.size (fun _ => True) (.slice Ao59 x1041000_1.length co59) x1041000_1) := ⟨h0_⟩
             have n1_ : Aside0 (Kd.R (Kd.int .i64) 3 w63 w.heap.size (fun _ => True) (.slice Ao60 x1041006_1.length co60) x1041006_1) := ⟨h1_⟩
             have n2_ : Aside0 (Kd.R k32 32 w63 w.heap.size (fun _ => True) u7 x7_1) := ⟨h2_⟩
             have n3_ : Aside0 (w63.heap[gb1023]? = some (.cells #[.slice A0_0 l0_0.length c0_0, .int .i64 a0_1, .int .i64 a0_2, .int .i64 a0_3, .int .i64 a0_4, .int .i64 a0_5, .slice A0_6 l0_6.length c0_6] 70 (0, 0))) := ⟨h3_⟩
             have n4_ : Aside0 (w63.heap[gb1024]? = some (.cells #[.slice none 0 0, .int .i64 x1025001_1, .int .i64 x1025002_1, .int .i64 x1025003_1, .int .i64 x1025004_1, .int .i64 x1025005_1, .slice none 0 0] 70 (0, 0))) := ⟨h4_⟩
             have n5_ : Aside0 (w63.heap[gb1040]? = some (.cells #[.slice Ao59 x1041000_1.length co59, .int .i64 x1041001_1, .int .i64 x1041002_1, .int .i64 x1041003_1, .int .i64 x1041004_1, .int .i64 x1041005_1, .slice Ao60 x1041006_1.length co60] 70 (0, 0))) := ⟨h5_⟩
             have n6_ : Aside0 (w63.heap[gb1058]? = some (.cells #[.slice none 0 0, .int .i64 0, .int .i64 0, .int .i64 0, .int .i64 0, .int .i64 0, .slice none 0 0] 70 (0, 0))) := ⟨h6_⟩
             have n7_ : Aside0 (w.heap.size ≤ gb1058) := ⟨h7_⟩
             have n8_ : Aside0 (w.heap.size ≤ gb1058) := ⟨h8_⟩
             have n9_ : Aside0 (gb1023 ≠ gb1058) := ⟨h9_⟩
             have n10_ : Aside0 (gb1058 ≠ gb1023) := ⟨h10_⟩
             have n11_ : Aside0 (gb1024 ≠ gb1058) := ⟨h11_⟩
             have n12_ : Aside0 (gb1058 ≠ gb1024) := ⟨h12_⟩
             have n13_ : Aside0 (gb1040 ≠ gb1058) := ⟨h13_⟩
             have n14_ : Aside0 (gb1058 ≠ gb1040) := ⟨h14_⟩
             have n15_ : Aside0 (Below w.heap.size w w63) := ⟨h15_⟩
             clear HO_7
             clear HO_1041000
             clear HO_1041006
             clear BK1023
             clear BK1024
             clear BK1040
             clear HB
             clear h0_ h1_ h2_ h3_ h4_ h5_ h6_ h7_ h8_ h9_ h10_ h11_ h12_ h13_ h14_ h15_
             have HO_1041000 := n0_
             have HO_1041006 := n1_
             have HO_7 := n2_
             have BK1023 := n3_
             have BK1024 := n4_
             have BK1040 := n5_
             have BK1058 := n6_
             have GW1058 := n7_
             have GE1058 := n8_
             have NB1023_1058 := n9_
             have NB1058_1023 := n10_
             have NB1024_1058 := n11_
             have NB1058_1024 := n12_
             have NB1040_1058 := n13_
             have NB1058_1040 := n14_
             have HB := n15_
             clear n0_ n1_ n2_ n3_ n4_ n5_ n6_ n7_ n8_ n9_ n10_ n11_ n12_ n13_ n14_ n15_
             have hHeld := hS_
             refine norm_ (a' := ?_) ?_ ?_
             rotate_left
             ·simp only [putAll, Act.put, List.setIfInBounds_toArray, List.set_cons_zero, List.set_cons_succ]
              rfl
             refine two_ (i := 5) (j := 11) (Ni := some 36) (Nj := some 11) #[true, true, true, true, true, true, false, false, false, false, true, false, false, false, false] #[true, true, true, true, true, false, false, false, false, false, true, true, false, false, false] rfl rfl rfl rfl (two_of HT_.out (by kernel_rfl)) (by decide) (by decide) (fun K hK => ?_) (fun K hK => ?_)
             ·skip
              refine goes_ Try.func36 (by kernel_rfl) rfl #[.agg #[.slice Ao59 x1041000_1.length co59, .int .i64 x1041001_1, .int .i64 x1041002_1, .int .i64 x1041003_1, .int .i64 x1041004_1, .int .i64 x1041005_1, .slice Ao60 x1041006_1.length co60], .agg #[.int .i64 ((rd_T74 l1 x9_1).f0), .int .i64 ((rd_T74 l1 x9_1).f1)]] (by rfl) rfl rfl ar_ ?_
              with_reducible refine (spec_Give.calls k1 _ _ x1041000_1 x1041001_1 x1041002_1 x1041003_1 x1041004_1 x1041005_1 _ _ x1041006_1 ((rd_T74 l1 x9_1).f0) ((rd_T74 l1 x9_1).f1) t1042 t1045 t1046 t1047 t1048 t1049 t1050 t1053 t1054 t1055 t1056 false _ ?side1 ?side2 ?side3 ?side4 A23.out).mono ?_
              (case side1 => repeat (first | exact (Kd.S_reads' HO_1041000.out).2.2 | (with_reducible refine Kd.C_alloc ?_ _) | (with_reducible refine Kd.C_drewN ?_ _) | (with_reducible refine Kd.C_drew ?_)))
              (case side2 => exact (Kd.S_reads' HO_1041000.out).2.1)
              (case side3 => repeat (first | exact (Kd.R_reads' HO_1041006.out).2.2 | (with_reducible refine Kd.C_alloc ?_ _) | (with_reducible refine Kd.C_drewN ?_ _) | (with_reducible refine Kd.C_drew ?_)))
              (case side4 => exact (Kd.R_reads' HO_1041006.out).2.1)
              rintro e w64 ⟨v1043, v1051, rfl, ho0, ho1, hb⟩
              refine ⟨_, rfl, ?_⟩
              replace HO_7 := Aside0.mk (Kd.R_below (rK_ HO_7) hb)
              have HO1044 := Aside0.mk (sL_ (Kd.S_new' ho0 (Kd.S_lt (sK_ HO_1041000))) HB)
              replace HO_1041000 := Aside0.mk (Kd.S_elder' (sK_ HO_1041000) (Kd.S_base ho0) hb)
              have HO1052 := Aside0.mk (rL_ (Kd.R_new' ho1 (Kd.R_lt (rK_ HO_1041006))) HB)
              replace HO_1041006 := Aside0.mk (Kd.R_elder' (rK_ HO_1041006) (Kd.R_base ho1) hb)
              replace BK1023 := bB_ BK1023 hb
              replace BK1024 := bB_ BK1024 hb
              replace BK1040 := bB_ BK1040 hb
              replace BK1058 := bB_ BK1058 hb
              replace HB := Aside0.mk (below_step (by repeat (first | (with_reducible first | exact HB.out | apply ba_ | apply bn_ | apply bd_ | refine bset_ ?_ (by assumption)) | exact HB.out)) hb)
              (try clear hb)
              (try clear hb2)
              (try clear hk)
              (try clear hi)
              (try clear ho0)
              (try clear ho1)
              refine hK.out _ _ ⟨(blk_cell BK1040.out 0).trans rfl, (blk_cell BK1040.out 1).trans rfl, (blk_cell BK1040.out 2).trans rfl, (blk_cell BK1040.out 3).trans rfl, (blk_cell BK1040.out 4).trans rfl, (blk_cell BK1040.out 5).trans rfl, (blk_cell BK1040.out 6).trans rfl, ((HB.out.cell (World.block_lt_of_cell? w _ hw1041_0)).trans hw1041_0), ((HB.out.cell (World.block_lt_of_cell? w _ hw1041_1)).trans hw1041_1)⟩ (fun hHeld => ?_)
              clear hK K
              refine norm_ (a' := ?_) ?_ ?_
              rotate_left
              ·show Act.put _ (some 36) _ = _
               simp only [Act.put, List.setIfInBounds_toArray, List.set_cons_zero, List.set_cons_succ, i64_w, i32_w]
               rfl
              refine pure_ (i := 6) (N := some 30) (v := ?_) (a' := ?_) #[true, true, true, true, true, true, true, false, false, false, true, false, false, false, false] rfl rfl (any_of HT_.out (by kernel_rfl)) (fun _ _ _ h => h) (Or.inl ⟨by rfl, ?_⟩) ?_ ?_
              rotate_left
              ·intro w'
               go_simp
               with_reducible rfl
              rotate_left
              ·simp only [Act.put, List.setIfInBounds_toArray, List.set_cons_zero, List.set_cons_succ, i64_w, i32_w]
               rfl
              refine pure_ (i := 7) (N := some 37) (v := ?_) (a' := ?_) #[true, true, true, true, true, true, true, true, false, false, true, false, false, false, false] rfl rfl (any_of HT_.out (by kernel_rfl)) (fun _ _ _ h => h) (Or.inl ⟨by rfl, ?_⟩) ?_ ?_
              rotate_left
              ·intro w'
               go_simp
               with_reducible rfl
              rotate_left
              ·simp only [Act.put, List.setIfInBounds_toArray, List.set_cons_zero, List.set_cons_succ, i64_w, i32_w]
               rfl
              refine pure_ (i := 8) (N := some 38) (v := ?_) (a' := ?_) #[true, true, true, true, true, true, true, true, true, false, true, false, false, false, false] rfl rfl (any_of HT_.out (by kernel_rfl)) (fun _ _ _ h => h) (Or.inl ⟨by rfl, ?_⟩) ?_ ?_
              rotate_left
              ·intro w'
               go_simp
               with_reducible rfl
              rotate_left
              ·simp only [Act.put, List.setIfInBounds_toArray, List.set_cons_zero, List.set_cons_succ, i64_w, i32_w]
               rfl
              refine pure_ (i := 9) (N := some 39) (v := ?_) (a' := ?_) #[true, true, true, true, true, true, true, true, true, true, true, false, false, false, false] rfl rfl (any_of HT_.out (by kernel_rfl)) (fun _ _ _ h => h) (Or.inl ⟨by rfl, ?_⟩) ?_ ?_
              rotate_left
              ·intro w'
               go_simp
               with_reducible rfl
              rotate_left
              ·simp only [Act.put, List.setIfInBounds_toArray, List.set_cons_zero, List.set_cons_succ, i64_w, i32_w]
               rfl
              exact norm_ (by first | (simp only [putAll, Act.put, List.setIfInBounds_toArray, List.set_cons_zero, List.set_cons_succ]; done) | (simp only [putAll, Act.put, List.setIfInBounds_toArray, List.set_cons_zero, List.set_cons_succ]; rfl)) (hJ5_10 (v1043, v1051, gb1058) _ ⟨hHeld, (by (with_reducible repeat first | apply ks1_ | apply ks2_ | apply ks3_); exact Kd.S_mono HO1044.out (fun _ hk => hk.2)), (by (with_reducible repeat first | apply kr1_ | apply kr2_ | apply kr3_); exact Kd.R_mono HO1052.out (fun _ hk => hk.2)), (by (with_reducible repeat first | apply ks1_ | apply ks2_ | apply ks3_); exact Kd.S_mono HO_1041000.out (fun _ hk => hk.2)), (by (with_reducible repeat first | apply kr1_ | apply kr2_ | apply kr3_); exact Kd.R_mono HO_1041006.out (fun _ hk => hk.2)), (rK_ HO_7), (bK_ BK1023), (bK_ BK1024), (bK_ BK1040), (bK_ BK1058), GW1058.out, GE1058.out, NB1023_1058.out, NB1058_1023.out, NB1024_1058.out, NB1058_1024.out, NB1040_1058.out, NB1058_1040.out, (by repeat (first | (with_reducible first | exact HB.out | apply ba_ | apply bn_ | apply bd_ | refine bset_ ?_ (by assumption)) | exact HB.out))⟩)
             ·skip
              refine box_step ?hg (N := 11) ?hd (cs := #[.int .i64 0, .int .i64 0, .int .i64 0, .int .i64 0]) (t := 32) ?hr ?_; (case hd => rfl); (case hg => rfl); (case hr => exact gs_)
              intro gb1059 hg w64 hbox hb
              replace HO_7 := Aside0.mk (Kd.R_below (Kd.R_elderB (rK_ HO_7) gb1059 (Nat.le_of_eq hg.symm)) hb)
              replace HO_1041000 := Aside0.mk (Kd.S_below (sK_ HO_1041000) hb)
              replace HO_1041006 := Aside0.mk (Kd.R_below (rK_ HO_1041006) hb)
              have BK1059 := Aside0.mk (hbox)
              have GW1059 := gE_ HB hg
              have GE1059 := gE_ HB hg
              replace HB := Aside0.mk (below_step (by repeat (first | (with_reducible first | exact HB.out | apply ba_ | apply bn_ | apply bd_ | refine bset_ ?_ (by assumption)) | exact HB.out)) hb)
              have NB1023_1059 := nB_ BK1023 hg
              have NB1059_1023 := nA_ BK1023 hg
              replace BK1023 := bB_ BK1023 hb
              have NB1024_1059 := nB_ BK1024 hg
              have NB1059_1024 := nA_ BK1024 hg
              replace BK1024 := bB_ BK1024 hb
              have NB1040_1059 := nB_ BK1040 hg
              have NB1059_1040 := nA_ BK1040 hg
              replace BK1040 := bB_ BK1040 hb
              have NB1058_1059 := nB_ BK1058 hg
              have NB1059_1058 := nA_ BK1058 hg
              replace BK1058 := bB_ BK1058 hb
              clear hb hbox hg
              refine hK.out _ _ ⟨(blk_cell BK1040.out 0).trans rfl, (blk_cell BK1040.out 1).trans rfl, (blk_cell BK1040.out 2).trans rfl, (blk_cell BK1040.out 3).trans rfl, (blk_cell BK1040.out 4).trans rfl, (blk_cell BK1040.out 5).trans rfl, (blk_cell BK1040.out 6).trans rfl, ((HB.out.cell (World.block_lt_of_cell? w _ hw1041_0)).trans hw1041_0), ((HB.out.cell (World.block_lt_of_cell? w _ hw1041_1)).trans hw1041_1)⟩ (fun hHeld => ?_)
              clear hK K
              refine norm_ (a' := ?_) ?_ ?_
              rotate_left
              ·show Act.put _ (some 11) _ = _
               simp only [Act.put, List.setIfInBounds_toArray, List.set_cons_zero, List.set_cons_succ, i64_w, i32_w]
               rfl
              exact norm_ (by first | (simp only [putAll, Act.put, List.setIfInBounds_toArray, List.set_cons_zero, List.set_cons_succ]; done) | (simp only [putAll, Act.put, List.setIfInBounds_toArray, List.set_cons_zero, List.set_cons_succ]; rfl)) (hJ10_11 (gb1058, gb1059) _ ⟨hHeld, (sK_ HO_1041000), (rK_ HO_1041006), (by (with_reducible repeat first | apply kr1_ | apply kr2_ | apply kr3_); exact Kd.R_mono HO_7.out (fun _ hk => hk.2)), (bK_ BK1023), (bK_ BK1024), (bK_ BK1040), (bK_ BK1058), (bK_ BK1059), GW1058.out, GE1058.out, NB1023_1058.out, NB1058_1023.out, NB1024_1058.out, NB1058_1024.out, NB1040_1058.out, NB1058_1040.out, NB1059_1058.out, NB1058_1059.out, GW1059.out, GE1059.out, NB1023_1059.out, NB1059_1023.out, NB1024_1059.out, NB1059_1024.out, NB1040_1059.out, NB1059_1040.out, (by repeat (first | (with_reducible first | exact HB.out | apply ba_ | apply bn_ | apply bd_ | refine bset_ ?_ (by assumption)) | exact HB.out))⟩)
           ·skip
            rintro ⟨v1043, v1051⟩ w63 ⟨hS_, h0_, h1_, h2_, h3_, h4_, h5_, h6_, h7_, h8_⟩
            have n0_ : Aside0 (Kd.S (Kd.slice 5 (Kd.int .u8)) 29 w63 w.heap.size (fun k_ => some k_ ≠ (.slice Ao59 x1041000_1.length co59 : Value).ownBlock) v1043 t1042) := ⟨h0_⟩
            have n1_ : Aside0 (Kd.R (Kd.int .i64) 3 w63 w.heap.size (fun k_ => some k_ ≠ (.slice Ao60 x1041006_1.length co60 : Value).ownBlock) v1051 t1050) := ⟨h1_⟩
            have n2_ : Aside0 (Kd.S (Kd.slice 5 (Kd.int .u8)) 29 w63 w.heap.size (fun k_ => some k_ ≠ (v1043 : Value).ownBlock) (.slice Ao59 x1041000_1.length co59) x1041000_1) := ⟨h2_⟩
            have n3_ : Aside0 (Kd.R (Kd.int .i64) 3 w63 w.heap.size (fun k_ => some k_ ≠ (v1051 : Value).ownBlock) (.slice Ao60 x1041006_1.length co60) x1041006_1) := ⟨h3_⟩
            have n4_ : Aside0 (Kd.R k32 32 w63 w.heap.size (fun _ => True) u7 x7_1) := ⟨h4_⟩
            have n5_ : Aside0 (w63.heap[gb1023]? = some (.cells #[.slice A0_0 l0_0.length c0_0, .int .i64 a0_1, .int .i64 a0_2, .int .i64 a0_3, .int .i64 a0_4, .int .i64 a0_5, .slice A0_6 l0_6.length c0_6] 70 (0, 0))) := ⟨h5_⟩
            have n6_ : Aside0 (w63.heap[gb1024]? = some (.cells #[.slice none 0 0, .int .i64 x1025001_1, .int .i64 x1025002_1, .int .i64 x1025003_1, .int .i64 x1025004_1, .int .i64 x1025005_1, .slice none 0 0] 70 (0, 0))) := ⟨h6_⟩
            have n7_ : Aside0 (w63.heap[gb1040]? = some (.cells #[.slice Ao59 x1041000_1.length co59, .int .i64 x1041001_1, .int .i64 x1041002_1, .int .i64 x1041003_1, .int .i64 x1041004_1, .int .i64 x1041005_1, .slice Ao60 x1041006_1.length co60] 70 (0, 0))) := ⟨h7_⟩
            have n8_ : Aside0 (Below w.heap.size w w63) := ⟨h8_⟩
            clear HO_7
            clear HO_1041000
            clear HO_1041006
            clear BK1023
            clear BK1024
            clear BK1040
            clear HB
            clear h0_ h1_ h2_ h3_ h4_ h5_ h6_ h7_ h8_
            have HO1044 := n0_
            have HO1052 := n1_
            have HO_1041000 := n2_
            have HO_1041006 := n3_
            have HO_7 := n4_
            have BK1023 := n5_
            have BK1024 := n6_
            have BK1040 := n7_
            have HB := n8_
            clear n0_ n1_ n2_ n3_ n4_ n5_ n6_ n7_ n8_
            have hHeld := hS_
            refine norm_ (a' := ?_) ?_ ?_
            rotate_left
            ·simp only [putAll, Act.put, List.setIfInBounds_toArray, List.set_cons_zero, List.set_cons_succ]
             rfl
            refine two_ (i := 10) (j := 11) (Ni := some 10) (Nj := some 11) #[true, true, true, true, true, true, true, true, true, true, true, false, false, false, false] #[true, true, true, true, true, true, true, true, true, true, false, true, false, false, false] rfl rfl rfl rfl (two_of HT_.out (by kernel_rfl)) (by decide) (by decide) (fun K hK => ?_) (fun K hK => ?_)
            ·skip
             refine box_step ?hg (N := 10) ?hd (cs := #[.slice none 0 0, .int .i64 0, .int .i64 0, .int .i64 0, .int .i64 0, .int .i64 0, .slice none 0 0]) (t := 70) ?hr ?_; (case hd => rfl); (case hg => rfl); (case hr => exact gs_)
             intro gb1058 hg w64 hbox hb
             replace HO_7 := Aside0.mk (Kd.R_below (rK_ HO_7) hb)
             replace HO_1041000 := Aside0.mk (Kd.S_below (sK_ HO_1041000) hb)
             replace HO_1041006 := Aside0.mk (Kd.R_below (rK_ HO_1041006) hb)
             replace HO1044 := Aside0.mk (Kd.S_below (sK_ HO1044) hb)
             replace HO1052 := Aside0.mk (Kd.R_below (rK_ HO1052) hb)
             have BK1058 := Aside0.mk (hbox)
             have GW1058 := gE_ HB hg
             have GE1058 := gE_ HB hg
             replace HB := Aside0.mk (below_step (by repeat (first | (with_reducible first | exact HB.out | apply ba_ | apply bn_ | apply bd_ | refine bset_ ?_ (by assumption)) | exact HB.out)) hb)
             have NB1023_1058 := nB_ BK1023 hg
             have NB1058_1023 := nA_ BK1023 hg
             replace BK1023 := bB_ BK1023 hb
             have NB1024_1058 := nB_ BK1024 hg
             have NB1058_1024 := nA_ BK1024 hg
             replace BK1024 := bB_ BK1024 hb
             have NB1040_1058 := nB_ BK1040 hg
             have NB1058_1040 := nA_ BK1040 hg
             replace BK1040 := bB_ BK1040 hb
             clear hb hbox hg
             refine hK.out _ _ ⟨(blk_cell BK1040.out 0).trans rfl, (blk_cell BK1040.out 1).trans rfl, (blk_cell BK1040.out 2).trans rfl, (blk_cell BK1040.out 3).trans rfl, (blk_cell BK1040.out 4).trans rfl, (blk_cell BK1040.out 5).trans rfl, (blk_cell BK1040.out 6).trans rfl, ((HB.out.cell (World.block_lt_of_cell? w _ hw1041_0)).trans hw1041_0), ((HB.out.cell (World.block_lt_of_cell? w _ hw1041_1)).trans hw1041_1)⟩ (fun hHeld => ?_)
             clear hK K
             refine norm_ (a' := ?_) ?_ ?_
             rotate_left
             ·show Act.put _ (some 10) _ = _
              simp only [Act.put, List.setIfInBounds_toArray, List.set_cons_zero, List.set_cons_succ, i64_w, i32_w]
              rfl
             exact norm_ (by first | (simp only [putAll, Act.put, List.setIfInBounds_toArray, List.set_cons_zero, List.set_cons_succ]; done) | (simp only [putAll, Act.put, List.setIfInBounds_toArray, List.set_cons_zero, List.set_cons_succ]; rfl)) (hJ5_10 (v1043, v1051, gb1058) _ ⟨hHeld, (sK_ HO1044), (rK_ HO1052), (sK_ HO_1041000), (rK_ HO_1041006), (rK_ HO_7), (bK_ BK1023), (bK_ BK1024), (bK_ BK1040), (bK_ BK1058), GW1058.out, GE1058.out, NB1023_1058.out, NB1058_1023.out, NB1024_1058.out, NB1058_1024.out, NB1040_1058.out, NB1058_1040.out, (by repeat (first | (with_reducible first | exact HB.out | apply ba_ | apply bn_ | apply bd_ | refine bset_ ?_ (by assumption)) | exact HB.out))⟩)
            ·skip
             refine box_step ?hg (N := 11) ?hd (cs := #[.int .i64 0, .int .i64 0, .int .i64 0, .int .i64 0]) (t := 32) ?hr ?_; (case hd => rfl); (case hg => rfl); (case hr => exact gs_)
             intro gb1059 hg w64 hbox hb
             replace HO_7 := Aside0.mk (Kd.R_below (Kd.R_elderB (rK_ HO_7) gb1059 (Nat.le_of_eq hg.symm)) hb)
             replace HO_1041000 := Aside0.mk (Kd.S_below (sK_ HO_1041000) hb)
             replace HO_1041006 := Aside0.mk (Kd.R_below (rK_ HO_1041006) hb)
             replace HO1044 := Aside0.mk (Kd.S_below (sK_ HO1044) hb)
             replace HO1052 := Aside0.mk (Kd.R_below (rK_ HO1052) hb)
             have BK1059 := Aside0.mk (hbox)
             have GW1059 := gE_ HB hg
             have GE1059 := gE_ HB hg
             replace HB := Aside0.mk (below_step (by repeat (first | (with_reducible first | exact HB.out | apply ba_ | apply bn_ | apply bd_ | refine bset_ ?_ (by assumption)) | exact HB.out)) hb)
             have NB1023_1059 := nB_ BK1023 hg
             have NB1059_1023 := nA_ BK1023 hg
             replace BK1023 := bB_ BK1023 hb
             have NB1024_1059 := nB_ BK1024 hg
             have NB1059_1024 := nA_ BK1024 hg
             replace BK1024 := bB_ BK1024 hb
             have NB1040_1059 := nB_ BK1040 hg
             have NB1059_1040 := nA_ BK1040 hg
             replace BK1040 := bB_ BK1040 hb
             clear hb hbox hg
             refine hK.out _ _ ⟨(blk_cell BK1040.out 0).trans rfl, (blk_cell BK1040.out 1).trans rfl, (blk_cell BK1040.out 2).trans rfl, (blk_cell BK1040.out 3).trans rfl, (blk_cell BK1040.out 4).trans rfl, (blk_cell BK1040.out 5).trans rfl, (blk_cell BK1040.out 6).trans rfl, ((HB.out.cell (World.block_lt_of_cell? w _ hw1041_0)).trans hw1041_0), ((HB.out.cell (World.block_lt_of_cell? w _ hw1041_1)).trans hw1041_1)⟩ (fun hHeld => ?_)
             clear hK K
             refine norm_ (a' := ?_) ?_ ?_
             rotate_left
             ·show Act.put _ (some 11) _ = _
              simp only [Act.put, List.setIfInBounds_toArray, List.set_cons_zero, List.set_cons_succ, i64_w, i32_w]
              rfl
             exact norm_ (by first | (simp only [putAll, Act.put, List.setIfInBounds_toArray, List.set_cons_zero, List.set_cons_succ]; done) | (simp only [putAll, Act.put, List.setIfInBounds_toArray, List.set_cons_zero, List.set_cons_succ]; rfl)) (hJ5_11 (v1043, v1051, gb1059) _ ⟨hHeld, (sK_ HO1044), (rK_ HO1052), (sK_ HO_1041000), (rK_ HO_1041006), (by (with_reducible repeat first | apply kr1_ | apply kr2_ | apply kr3_); exact Kd.R_mono HO_7.out (fun _ hk => hk.2)), (bK_ BK1023), (bK_ BK1024), (bK_ BK1040), (bK_ BK1059), GW1059.out, GE1059.out, NB1023_1059.out, NB1059_1023.out, NB1024_1059.out, NB1059_1024.out, NB1040_1059.out, NB1059_1040.out, (by repeat (first | (with_reducible first | exact HB.out | apply ba_ | apply bn_ | apply bd_ | refine bset_ ?_ (by assumption)) | exact HB.out))⟩)
          ·skip
           rintro ⟨gb1058, gb1059⟩ w64 ⟨hS_, h0_, h1_, h2_, h3_, h4_, h5_, h6_, h7_, h8_, h9_, h10_, h11_, h12_, h13_, h14_, h15_, h16_, h17_, h18_, h19_, h20_, h21_, h22_, h23_, h24_, h25_, h26_⟩
           have n0_ : Aside0 (Kd.S (Kd.slice 5 (Kd.int .u8)) 29 w64 w.heap.size (fun _ => True) (.slice Ao59 x1041000_1.length co59) x1041000_1) := ⟨h0_⟩
           have n1_ : Aside0 (Kd.R (Kd.int .i64) 3 w64 w.heap.size (fun _ => True) (.slice Ao60 x1041006_1.length co60) x1041006_1) := ⟨h1_⟩
           have n2_ : Aside0 (Kd.R k32 32 w64 w.heap.size (fun k_ => k_ ≠ gb1059) u7 x7_1) := ⟨h2_⟩
           have n3_ : Aside0 (w64.heap[gb1023]? = some (.cells #[.slice A0_0 l0_0.length c0_0, .int .i64 a0_1, .int .i64 a0_2, .int .i64 a0_3, .int .i64 a0_4, .int .i64 a0_5, .slice A0_6 l0_6.length c0_6] 70 (0, 0))) := ⟨h3_⟩
           have n4_ : Aside0 (w64.heap[gb1024]? = some (.cells #[.slice none 0 0, .int .i64 x1025001_1, .int .i64 x1025002_1, .int .i64 x1025003_1, .int .i64 x1025004_1, .int .i64 x1025005_1, .slice none 0 0] 70 (0, 0))) := ⟨h4_⟩
           have n5_ : Aside0 (w64.heap[gb1040]? = some (.cells #[.slice Ao59 x1041000_1.length co59, .int .i64 x1041001_1, .int .i64 x1041002_1, .int .i64 x1041003_1, .int .i64 x1041004_1, .int .i64 x1041005_1, .slice Ao60 x1041006_1.length co60] 70 (0, 0))) := ⟨h5_⟩
           have n6_ : Aside0 (w64.heap[gb1058]? = some (.cells #[.slice none 0 0, .int .i64 0, .int .i64 0, .int .i64 0, .int .i64 0, .int .i64 0, .slice none 0 0] 70 (0, 0))) := ⟨h6_⟩
           have n7_ : Aside0 (w64.heap[gb1059]? = some (.cells #[.int .i64 0, .int .i64 0, .int .i64 0, .int .i64 0] 32 (0, 0))) := ⟨h7_⟩
           have n8_ : Aside0 (w.heap.size ≤ gb1058) := ⟨h8_⟩
           have n9_ : Aside0 (w.heap.size ≤ gb1058) := ⟨h9_⟩
           have n10_ : Aside0 (gb1023 ≠ gb1058) := ⟨h10_⟩
           have n11_ : Aside0 (gb1058 ≠ gb1023) := ⟨h11_⟩
           have n12_ : Aside0 (gb1024 ≠ gb1058) := ⟨h12_⟩
           have n13_ : Aside0 (gb1058 ≠ gb1024) := ⟨h13_⟩
           have n14_ : Aside0 (gb1040 ≠ gb1058) := ⟨h14_⟩
           have n15_ : Aside0 (gb1058 ≠ gb1040) := ⟨h15_⟩
           have n16_ : Aside0 (gb1059 ≠ gb1058) := ⟨h16_⟩
           have n17_ : Aside0 (gb1058 ≠ gb1059) := ⟨h17_⟩
           have n18_ : Aside0 (w.heap.size ≤ gb1059) := ⟨h18_⟩
           have n19_ : Aside0 (w.heap.size ≤ gb1059) := ⟨h19_⟩
           have n20_ : Aside0 (gb1023 ≠ gb1059) := ⟨h20_⟩
           have n21_ : Aside0 (gb1059 ≠ gb1023) := ⟨h21_⟩
           have n22_ : Aside0 (gb1024 ≠ gb1059) := ⟨h22_⟩
           have n23_ : Aside0 (gb1059 ≠ gb1024) := ⟨h23_⟩
           have n24_ : Aside0 (gb1040 ≠ gb1059) := ⟨h24_⟩
           have n25_ : Aside0 (gb1059 ≠ gb1040) := ⟨h25_⟩
           have n26_ : Aside0 (Below w.heap.size w w64) := ⟨h26_⟩
           clear HO_7
           clear HO_1041000
           clear HO_1041006
           clear BK1023
           clear BK1024
           clear BK1040
           clear HB
           clear h0_ h1_ h2_ h3_ h4_ h5_ h6_ h7_ h8_ h9_ h10_ h11_ h12_ h13_ h14_ h15_ h16_ h17_ h18_ h19_ h20_ h21_ h22_ h23_ h24_ h25_ h26_
           have HO_1041000 := n0_
           have HO_1041006 := n1_
           have HO_7 := n2_
           have BK1023 := n3_
           have BK1024 := n4_
           have BK1040 := n5_
           have BK1058 := n6_
           have BK1059 := n7_
           have GW1058 := n8_
           have GE1058 := n9_
           have NB1023_1058 := n10_
           have NB1058_1023 := n11_
           have NB1024_1058 := n12_
           have NB1058_1024 := n13_
           have NB1040_1058 := n14_
           have NB1058_1040 := n15_
           have NB1059_1058 := n16_
           have NB1058_1059 := n17_
           have GW1059 := n18_
           have GE1059 := n19_
           have NB1023_1059 := n20_
           have NB1059_1023 := n21_
           have NB1024_1059 := n22_
           have NB1059_1024 := n23_
           have NB1040_1059 := n24_
           have NB1059_1040 := n25_
           have HB := n26_
           clear n0_ n1_ n2_ n3_ n4_ n5_ n6_ n7_ n8_ n9_ n10_ n11_ n12_ n13_ n14_ n15_ n16_ n17_ n18_ n19_ n20_ n21_ n22_ n23_ n24_ n25_ n26_
           have hHeld := hS_
           refine norm_ (a' := ?_) ?_ ?_
           rotate_left
           ·simp only [putAll, Act.put, List.setIfInBounds_toArray, List.set_cons_zero, List.set_cons_succ]
            rfl
           refine one_ (i := 5) (N := some 36) #[true, true, true, true, true, true, false, false, false, false, true, true, false, false, false] rfl rfl (one_of HT_.out (by kernel_rfl)) (by decide) (fun K hK => ?_)
           refine goes_ Try.func36 (by kernel_rfl) rfl #[.agg #[.slice Ao59 x1041000_1.length co59, .int .i64 x1041001_1, .int .i64 x1041002_1, .int .i64 x1041003_1, .int .i64 x1041004_1, .int .i64 x1041005_1, .slice Ao60 x1041006_1.length co60], .agg #[.int .i64 ((rd_T74 l1 x9_1).f0), .int .i64 ((rd_T74 l1 x9_1).f1)]] (by rfl) rfl rfl ar_ ?_
           with_reducible refine (spec_Give.calls k1 _ _ x1041000_1 x1041001_1 x1041002_1 x1041003_1 x1041004_1 x1041005_1 _ _ x1041006_1 ((rd_T74 l1 x9_1).f0) ((rd_T74 l1 x9_1).f1) t1042 t1045 t1046 t1047 t1048 t1049 t1050 t1053 t1054 t1055 t1056 false _ ?side1 ?side2 ?side3 ?side4 A23.out).mono ?_
           (case side1 => repeat (first | exact (Kd.S_reads' HO_1041000.out).2.2 | (with_reducible refine Kd.C_alloc ?_ _) | (with_reducible refine Kd.C_drewN ?_ _) | (with_reducible refine Kd.C_drew ?_)))
           (case side2 => exact (Kd.S_reads' HO_1041000.out).2.1)
           (case side3 => repeat (first | exact (Kd.R_reads' HO_1041006.out).2.2 | (with_reducible refine Kd.C_alloc ?_ _) | (with_reducible refine Kd.C_drewN ?_ _) | (with_reducible refine Kd.C_drew ?_)))
           (case side4 => exact (Kd.R_reads' HO_1041006.out).2.1)
           rintro e w65 ⟨v1043, v1051, rfl, ho0, ho1, hb⟩
           refine ⟨_, rfl, ?_⟩
           replace HO_7 := Aside0.mk (Kd.R_below (rK_ HO_7) hb)
           have HO1044 := Aside0.mk (sL_ (Kd.S_new' ho0 (Kd.S_lt (sK_ HO_1041000))) HB)
           replace HO_1041000 := Aside0.mk (Kd.S_elder' (sK_ HO_1041000) (Kd.S_base ho0) hb)
           have HO1052 := Aside0.mk (rL_ (Kd.R_new' ho1 (Kd.R_lt (rK_ HO_1041006))) HB)
           replace HO_1041006 := Aside0.mk (Kd.R_elder' (rK_ HO_1041006) (Kd.R_base ho1) hb)
           replace BK1023 := bB_ BK1023 hb
           replace BK1024 := bB_ BK1024 hb
           replace BK1040 := bB_ BK1040 hb
           replace BK1058 := bB_ BK1058 hb
           replace BK1059 := bB_ BK1059 hb
           replace HB := Aside0.mk (below_step (by repeat (first | (with_reducible first | exact HB.out | apply ba_ | apply bn_ | apply bd_ | refine bset_ ?_ (by assumption)) | exact HB.out)) hb)
           (try clear hb)
           (try clear hb2)
           (try clear hk)
           (try clear hi)
           (try clear ho0)
           (try clear ho1)
           refine hK.out _ _ ⟨(blk_cell BK1040.out 0).trans rfl, (blk_cell BK1040.out 1).trans rfl, (blk_cell BK1040.out 2).trans rfl, (blk_cell BK1040.out 3).trans rfl, (blk_cell BK1040.out 4).trans rfl, (blk_cell BK1040.out 5).trans rfl, (blk_cell BK1040.out 6).trans rfl, ((HB.out.cell (World.block_lt_of_cell? w _ hw1041_0)).trans hw1041_0), ((HB.out.cell (World.block_lt_of_cell? w _ hw1041_1)).trans hw1041_1)⟩ (fun hHeld => ?_)
           clear hK K
           refine norm_ (a' := ?_) ?_ ?_
           rotate_left
           ·show Act.put _ (some 36) _ = _
            simp only [Act.put, List.setIfInBounds_toArray, List.set_cons_zero, List.set_cons_succ, i64_w, i32_w]
            rfl
           refine pure_ (i := 6) (N := some 30) (v := ?_) (a' := ?_) #[true, true, true, true, true, true, true, false, false, false, true, true, false, false, false] rfl rfl (any_of HT_.out (by kernel_rfl)) (fun _ _ _ h => h) (Or.inl ⟨by rfl, ?_⟩) ?_ ?_
           rotate_left
           ·intro w'
            go_simp
            with_reducible rfl
           rotate_left
           ·simp only [Act.put, List.setIfInBounds_toArray, List.set_cons_zero, List.set_cons_succ, i64_w, i32_w]
            rfl
           refine pure_ (i := 7) (N := some 37) (v := ?_) (a' := ?_) #[true, true, true, true, true, true, true, true, false, false, true, true, false, false, false] rfl rfl (any_of HT_.out (by kernel_rfl)) (fun _ _ _ h => h) (Or.inl ⟨by rfl, ?_⟩) ?_ ?_
           rotate_left
           ·intro w'
            go_simp
            with_reducible rfl
           rotate_left
           ·simp only [Act.put, List.setIfInBounds_toArray, List.set_cons_zero, List.set_cons_succ, i64_w, i32_w]
            rfl
           refine pure_ (i := 8) (N := some 38) (v := ?_) (a' := ?_) #[true, true, true, true, true, true, true, true, true, false, true, true, false, false, false] rfl rfl (any_of HT_.out (by kernel_rfl)) (fun _ _ _ h => h) (Or.inl ⟨by rfl, ?_⟩) ?_ ?_
           rotate_left
           ·intro w'
            go_simp
            with_reducible rfl
           rotate_left
           ·simp only [Act.put, List.setIfInBounds_toArray, List.set_cons_zero, List.set_cons_succ, i64_w, i32_w]
            rfl
           refine pure_ (i := 9) (N := some 39) (v := ?_) (a' := ?_) #[true, true, true, true, true, true, true, true, true, true, true, true, false, false, false] rfl rfl (any_of HT_.out (by kernel_rfl)) (fun _ _ _ h => h) (Or.inl ⟨by rfl, ?_⟩) ?_ ?_
           rotate_left
           ·intro w'
            go_simp
            with_reducible rfl
           rotate_left
           ·simp only [Act.put, List.setIfInBounds_toArray, List.set_cons_zero, List.set_cons_succ, i64_w, i32_w]
            rfl
           exact norm_ (by first | (simp only [putAll, Act.put, List.setIfInBounds_toArray, List.set_cons_zero, List.set_cons_succ]; done) | (simp only [putAll, Act.put, List.setIfInBounds_toArray, List.set_cons_zero, List.set_cons_succ]; rfl)) (hJ5_10_11 (v1043, v1051, gb1058, gb1059) _ ⟨hHeld, (by (with_reducible repeat first | apply ks1_ | apply ks2_ | apply ks3_); exact Kd.S_mono HO1044.out (fun _ hk => hk.2)), (by (with_reducible repeat first | apply kr1_ | apply kr2_ | apply kr3_); exact Kd.R_mono HO1052.out (fun _ hk => hk.2)), (by (with_reducible repeat first | apply ks1_ | apply ks2_ | apply ks3_); exact Kd.S_mono HO_1041000.out (fun _ hk => hk.2)), (by (with_reducible repeat first | apply kr1_ | apply kr2_ | apply kr3_); exact Kd.R_mono HO_1041006.out (fun _ hk => hk.2)), (rK_ HO_7), (bK_ BK1023), (bK_ BK1024), (bK_ BK1040), (bK_ BK1058), (bK_ BK1059), GW1058.out, GE1058.out, NB1023_1058.out, NB1058_1023.out, NB1024_1058.out, NB1058_1024.out, NB1040_1058.out, NB1058_1040.out, NB1059_1058.out, NB1058_1059.out, GW1059.out, GE1059.out, NB1023_1059.out, NB1059_1023.out, NB1024_1059.out, NB1059_1024.out, NB1040_1059.out, NB1059_1040.out, (by repeat (first | (with_reducible first | exact HB.out | apply ba_ | apply bn_ | apply bd_ | refine bset_ ?_ (by assumption)) | exact HB.out))⟩)
         ·skip
          rintro ⟨v1043, v1051, gb1059⟩ w64 ⟨hS_, h0_, h1_, h2_, h3_, h4_, h5_, h6_, h7_, h8_, h9_, h10_, h11_, h12_, h13_, h14_, h15_, h16_, h17_⟩
          have n0_ : Aside0 (Kd.S (Kd.slice 5 (Kd.int .u8)) 29 w64 w.heap.size (fun k_ => some k_ ≠ (.slice Ao59 x1041000_1.length co59 : Value).ownBlock) v1043 t1042) := ⟨h0_⟩
          have n1_ : Aside0 (Kd.R (Kd.int .i64) 3 w64 w.heap.size (fun k_ => some k_ ≠ (.slice Ao60 x1041006_1.length co60 : Value).ownBlock) v1051 t1050) := ⟨h1_⟩
          have n2_ : Aside0 (Kd.S (Kd.slice 5 (Kd.int .u8)) 29 w64 w.heap.size (fun k_ => some k_ ≠ (v1043 : Value).ownBlock) (.slice Ao59 x1041000_1.length co59) x1041000_1) := ⟨h2_⟩
          have n3_ : Aside0 (Kd.R (Kd.int .i64) 3 w64 w.heap.size (fun k_ => some k_ ≠ (v1051 : Value).ownBlock) (.slice Ao60 x1041006_1.length co60) x1041006_1) := ⟨h3_⟩
          have n4_ : Aside0 (Kd.R k32 32 w64 w.heap.size (fun k_ => k_ ≠ gb1059) u7 x7_1) := ⟨h4_⟩
          have n5_ : Aside0 (w64.heap[gb1023]? = some (.cells #[.slice A0_0 l0_0.length c0_0, .int .i64 a0_1, .int .i64 a0_2, .int .i64 a0_3, .int .i64 a0_4, .int .i64 a0_5, .slice A0_6 l0_6.length c0_6] 70 (0, 0))) := ⟨h5_⟩
          have n6_ : Aside0 (w64.heap[gb1024]? = some (.cells #[.slice none 0 0, .int .i64 x1025001_1, .int .i64 x1025002_1, .int .i64 x1025003_1, .int .i64 x1025004_1, .int .i64 x1025005_1, .slice none 0 0] 70 (0, 0))) := ⟨h6_⟩
          have n7_ : Aside0 (w64.heap[gb1040]? = some (.cells #[.slice Ao59 x1041000_1.length co59, .int .i64 x1041001_1, .int .i64 x1041002_1, .int .i64 x1041003_1, .int .i64 x1041004_1, .int .i64 x1041005_1, .slice Ao60 x1041006_1.length co60] 70 (0, 0))) := ⟨h7_⟩
          have n8_ : Aside0 (w64.heap[gb1059]? = some (.cells #[.int .i64 0, .int .i64 0, .int .i64 0, .int .i64 0] 32 (0, 0))) := ⟨h8_⟩
          have n9_ : Aside0 (w.heap.size ≤ gb1059) := ⟨h9_⟩
          have n10_ : Aside0 (w.heap.size ≤ gb1059) := ⟨h10_⟩
          have n11_ : Aside0 (gb1023 ≠ gb1059) := ⟨h11_⟩
          have n12_ : Aside0 (gb1059 ≠ gb1023) := ⟨h12_⟩
          have n13_ : Aside0 (gb1024 ≠ gb1059) := ⟨h13_⟩
          have n14_ : Aside0 (gb1059 ≠ gb1024) := ⟨h14_⟩
          have n15_ : Aside0 (gb1040 ≠ gb1059) := ⟨h15_⟩
          have n16_ : Aside0 (gb1059 ≠ gb1040) := ⟨h16_⟩
          have n17_ : Aside0 (Below w.heap.size w w64) := ⟨h17_⟩
          clear HO_7
          clear HO_1041000
          clear HO_1041006
          clear BK1023
          clear BK1024
          clear BK1040
          clear HB
          clear h0_ h1_ h2_ h3_ h4_ h5_ h6_ h7_ h8_ h9_ h10_ h11_ h12_ h13_ h14_ h15_ h16_ h17_
          have HO1044 := n0_
          have HO1052 := n1_
          have HO_1041000 := n2_
          have HO_1041006 := n3_
          have HO_7 := n4_
          have BK1023 := n5_
          have BK1024 := n6_
          have BK1040 := n7_
          have BK1059 := n8_
          have GW1059 := n9_
          have GE1059 := n10_
          have NB1023_1059 := n11_
          have NB1059_1023 := n12_
          have NB1024_1059 := n13_
          have NB1059_1024 := n14_
          have NB1040_1059 := n15_
          have NB1059_1040 := n16_
          have HB := n17_
          clear n0_ n1_ n2_ n3_ n4_ n5_ n6_ n7_ n8_ n9_ n10_ n11_ n12_ n13_ n14_ n15_ n16_ n17_
          have hHeld := hS_
          refine norm_ (a' := ?_) ?_ ?_
          rotate_left
          ·simp only [putAll, Act.put, List.setIfInBounds_toArray, List.set_cons_zero, List.set_cons_succ]
           rfl
          refine one_ (i := 10) (N := some 10) #[true, true, true, true, true, true, true, true, true, true, true, true, false, false, false] rfl rfl (one_of HT_.out (by kernel_rfl)) (by decide) (fun K hK => ?_)
          refine box_step ?hg (N := 10) ?hd (cs := #[.slice none 0 0, .int .i64 0, .int .i64 0, .int .i64 0, .int .i64 0, .int .i64 0, .slice none 0 0]) (t := 70) ?hr ?_; (case hd => rfl); (case hg => rfl); (case hr => exact gs_)
          intro gb1058 hg w65 hbox hb
          replace HO_7 := Aside0.mk (Kd.R_below (rK_ HO_7) hb)
          replace HO_1041000 := Aside0.mk (Kd.S_below (sK_ HO_1041000) hb)
          replace HO_1041006 := Aside0.mk (Kd.R_below (rK_ HO_1041006) hb)
          replace HO1044 := Aside0.mk (Kd.S_below (sK_ HO1044) hb)
          replace HO1052 := Aside0.mk (Kd.R_below (rK_ HO1052) hb)
          have BK1058 := Aside0.mk (hbox)
          have GW1058 := gE_ HB hg
          have GE1058 := gE_ HB hg
          replace HB := Aside0.mk (below_step (by repeat (first | (with_reducible first | exact HB.out | apply ba_ | apply bn_ | apply bd_ | refine bset_ ?_ (by assumption)) | exact HB.out)) hb)
          have NB1023_1058 := nB_ BK1023 hg
          have NB1058_1023 := nA_ BK1023 hg
          replace BK1023 := bB_ BK1023 hb
          have NB1024_1058 := nB_ BK1024 hg
          have NB1058_1024 := nA_ BK1024 hg
          replace BK1024 := bB_ BK1024 hb
          have NB1040_1058 := nB_ BK1040 hg
          have NB1058_1040 := nA_ BK1040 hg
          replace BK1040 := bB_ BK1040 hb
          have NB1059_1058 := nB_ BK1059 hg
          have NB1058_1059 := nA_ BK1059 hg
          replace BK1059 := bB_ BK1059 hb
          clear hb hbox hg
          refine hK.out _ _ ⟨(blk_cell BK1040.out 0).trans rfl, (blk_cell BK1040.out 1).trans rfl, (blk_cell BK1040.out 2).trans rfl, (blk_cell BK1040.out 3).trans rfl, (blk_cell BK1040.out 4).trans rfl, (blk_cell BK1040.out 5).trans rfl, (blk_cell BK1040.out 6).trans rfl, ((HB.out.cell (World.block_lt_of_cell? w _ hw1041_0)).trans hw1041_0), ((HB.out.cell (World.block_lt_of_cell? w _ hw1041_1)).trans hw1041_1)⟩ (fun hHeld => ?_)
          clear hK K
          refine norm_ (a' := ?_) ?_ ?_
          rotate_left
          ·show Act.put _ (some 10) _ = _
           simp only [Act.put, List.setIfInBounds_toArray, List.set_cons_zero, List.set_cons_succ, i64_w, i32_w]
           rfl
          exact norm_ (by first | (simp only [putAll, Act.put, List.setIfInBounds_toArray, List.set_cons_zero, List.set_cons_succ]; done) | (simp only [putAll, Act.put, List.setIfInBounds_toArray, List.set_cons_zero, List.set_cons_succ]; rfl)) (hJ5_10_11 (v1043, v1051, gb1058, gb1059) _ ⟨hHeld, (sK_ HO1044), (rK_ HO1052), (sK_ HO_1041000), (rK_ HO_1041006), (rK_ HO_7), (bK_ BK1023), (bK_ BK1024), (bK_ BK1040), (bK_ BK1058), (bK_ BK1059), GW1058.out, GE1058.out, NB1023_1058.out, NB1058_1023.out, NB1024_1058.out, NB1058_1024.out, NB1040_1058.out, NB1058_1040.out, NB1059_1058.out, NB1058_1059.out, GW1059.out, GE1059.out, NB1023_1059.out, NB1059_1023.out, NB1024_1059.out, NB1059_1024.out, NB1040_1059.out, NB1059_1040.out, (by repeat (first | (with_reducible first | exact HB.out | apply ba_ | apply bn_ | apply bd_ | refine bset_ ?_ (by assumption)) | exact HB.out))⟩)
        ·skip
         rintro ⟨v1043, v1051, gb1058⟩ w64 ⟨hS_, h0_, h1_, h2_, h3_, h4_, h5_, h6_, h7_, h8_, h9_, h10_, h11_, h12_, h13_, h14_, h15_, h16_, h17_⟩
         have n0_ : Aside0 (Kd.S (Kd.slice 5 (Kd.int .u8)) 29 w64 w.heap.size (fun k_ => some k_ ≠ (.slice Ao59 x1041000_1.length co59 : Value).ownBlock) v1043 t1042) := ⟨h0_⟩
         have n1_ : Aside0 (Kd.R (Kd.int .i64) 3 w64 w.heap.size (fun k_ => some k_ ≠ (.slice Ao60 x1041006_1.length co60 : Value).ownBlock) v1051 t1050) := ⟨h1_⟩
         have n2_ : Aside0 (Kd.S (Kd.slice 5 (Kd.int .u8)) 29 w64 w.heap.size (fun k_ => some k_ ≠ (v1043 : Value).ownBlock) (.slice Ao59 x1041000_1.length co59) x1041000_1) := ⟨h2_⟩
         have n3_ : Aside0 (Kd.R (Kd.int .i64) 3 w64 w.heap.size (fun k_ => some k_ ≠ (v1051 : Value).ownBlock) (.slice Ao60 x1041006_1.length co60) x1041006_1) := ⟨h3_⟩
         have n4_ : Aside0 (Kd.R k32 32 w64 w.heap.size (fun _ => True) u7 x7_1) := ⟨h4_⟩
         have n5_ : Aside0 (w64.heap[gb1023]? = some (.cells #[.slice A0_0 l0_0.length c0_0, .int .i64 a0_1, .int .i64 a0_2, .int .i64 a0_3, .int .i64 a0_4, .int .i64 a0_5, .slice A0_6 l0_6.length c0_6] 70 (0, 0))) := ⟨h5_⟩
         have n6_ : Aside0 (w64.heap[gb1024]? = some (.cells #[.slice none 0 0, .int .i64 x1025001_1, .int .i64 x1025002_1, .int .i64 x1025003_1, .int .i64 x1025004_1, .int .i64 x1025005_1, .slice none 0 0] 70 (0, 0))) := ⟨h6_⟩
         have n7_ : Aside0 (w64.heap[gb1040]? = some (.cells #[.slice Ao59 x1041000_1.length co59, .int .i64 x1041001_1, .int .i64 x1041002_1, .int .i64 x1041003_1, .int .i64 x1041004_1, .int .i64 x1041005_1, .slice Ao60 x1041006_1.length co60] 70 (0, 0))) := ⟨h7_⟩
         have n8_ : Aside0 (w64.heap[gb1058]? = some (.cells #[.slice none 0 0, .int .i64 0, .int .i64 0, .int .i64 0, .int .i64 0, .int .i64 0, .slice none 0 0] 70 (0, 0))) := ⟨h8_⟩
         have n9_ : Aside0 (w.heap.size ≤ gb1058) := ⟨h9_⟩
         have n10_ : Aside0 (w.heap.size ≤ gb1058) := ⟨h10_⟩
         have n11_ : Aside0 (gb1023 ≠ gb1058) := ⟨h11_⟩
         have n12_ : Aside0 (gb1058 ≠ gb1023) := ⟨h12_⟩
         have n13_ : Aside0 (gb1024 ≠ gb1058) := ⟨h13_⟩
         have n14_ : Aside0 (gb1058 ≠ gb1024) := ⟨h14_⟩
         have n15_ : Aside0 (gb1040 ≠ gb1058) := ⟨h15_⟩
         have n16_ : Aside0 (gb1058 ≠ gb1040) := ⟨h16_⟩
         have n17_ : Aside0 (Below w.heap.size w w64) := ⟨h17_⟩
         clear HO_7
         clear HO_1041000
         clear HO_1041006
         clear BK1023
         clear BK1024
         clear BK1040
         clear HB
         clear h0_ h1_ h2_ h3_ h4_ h5_ h6_ h7_ h8_ h9_ h10_ h11_ h12_ h13_ h14_ h15_ h16_ h17_
         have HO1044 := n0_
         have HO1052 := n1_
         have HO_1041000 := n2_
         have HO_1041006 := n3_
         have HO_7 := n4_
         have BK1023 := n5_
         have BK1024 := n6_
         have BK1040 := n7_
         have BK1058 := n8_
         have GW1058 := n9_
         have GE1058 := n10_
         have NB1023_1058 := n11_
         have NB1058_1023 := n12_
         have NB1024_1058 := n13_
         have NB1058_1024 := n14_
         have NB1040_1058 := n15_
         have NB1058_1040 := n16_
         have HB := n17_
         clear n0_ n1_ n2_ n3_ n4_ n5_ n6_ n7_ n8_ n9_ n10_ n11_ n12_ n13_ n14_ n15_ n16_ n17_
         have hHeld := hS_
         refine norm_ (a' := ?_) ?_ ?_
         rotate_left
         ·simp only [putAll, Act.put, List.setIfInBounds_toArray, List.set_cons_zero, List.set_cons_succ]
          rfl
         refine one_ (i := 11) (N := some 11) #[true, true, true, true, true, true, true, true, true, true, true, true, false, false, false] rfl rfl (one_of HT_.out (by kernel_rfl)) (by decide) (fun K hK => ?_)
         refine box_step ?hg (N := 11) ?hd (cs := #[.int .i64 0, .int .i64 0, .int .i64 0, .int .i64 0]) (t := 32) ?hr ?_; (case hd => rfl); (case hg => rfl); (case hr => exact gs_)
         intro gb1059 hg w65 hbox hb
         replace HO_7 := Aside0.mk (Kd.R_below (Kd.R_elderB (rK_ HO_7) gb1059 (Nat.le_of_eq hg.symm)) hb)
         replace HO_1041000 := Aside0.mk (Kd.S_below (sK_ HO_1041000) hb)
         replace HO_1041006 := Aside0.mk (Kd.R_below (rK_ HO_1041006) hb)
         replace HO1044 := Aside0.mk (Kd.S_below (sK_ HO1044) hb)
         replace HO1052 := Aside0.mk (Kd.R_below (rK_ HO1052) hb)
         have BK1059 := Aside0.mk (hbox)
         have GW1059 := gE_ HB hg
         have GE1059 := gE_ HB hg
         replace HB := Aside0.mk (below_step (by repeat (first | (with_reducible first | exact HB.out | apply ba_ | apply bn_ | apply bd_ | refine bset_ ?_ (by assumption)) | exact HB.out)) hb)
         have NB1023_1059 := nB_ BK1023 hg
         have NB1059_1023 := nA_ BK1023 hg
         replace BK1023 := bB_ BK1023 hb
         have NB1024_1059 := nB_ BK1024 hg
         have NB1059_1024 := nA_ BK1024 hg
         replace BK1024 := bB_ BK1024 hb
         have NB1040_1059 := nB_ BK1040 hg
         have NB1059_1040 := nA_ BK1040 hg
         replace BK1040 := bB_ BK1040 hb
         have NB1058_1059 := nB_ BK1058 hg
         have NB1059_1058 := nA_ BK1058 hg
         replace BK1058 := bB_ BK1058 hb
         clear hb hbox hg
         refine hK.out _ _ ⟨(blk_cell BK1040.out 0).trans rfl, (blk_cell BK1040.out 1).trans rfl, (blk_cell BK1040.out 2).trans rfl, (blk_cell BK1040.out 3).trans rfl, (blk_cell BK1040.out 4).trans rfl, (blk_cell BK1040.out 5).trans rfl, (blk_cell BK1040.out 6).trans rfl, ((HB.out.cell (World.block_lt_of_cell? w _ hw1041_0)).trans hw1041_0), ((HB.out.cell (World.block_lt_of_cell? w _ hw1041_1)).trans hw1041_1)⟩ (fun hHeld => ?_)
         clear hK K
         refine norm_ (a' := ?_) ?_ ?_
         rotate_left
         ·show Act.put _ (some 11) _ = _
          simp only [Act.put, List.setIfInBounds_toArray, List.set_cons_zero, List.set_cons_succ, i64_w, i32_w]
          rfl
         exact norm_ (by first | (simp only [putAll, Act.put, List.setIfInBounds_toArray, List.set_cons_zero, List.set_cons_succ]; done) | (simp only [putAll, Act.put, List.setIfInBounds_toArray, List.set_cons_zero, List.set_cons_succ]; rfl)) (hJ5_10_11 (v1043, v1051, gb1058, gb1059) _ ⟨hHeld, (sK_ HO1044), (rK_ HO1052), (sK_ HO_1041000), (rK_ HO_1041006), (by (with_reducible repeat first | apply kr1_ | apply kr2_ | apply kr3_); exact Kd.R_mono HO_7.out (fun _ hk => hk.2)), (bK_ BK1023), (bK_ BK1024), (bK_ BK1040), (bK_ BK1058), (bK_ BK1059), GW1058.out, GE1058.out, NB1023_1058.out, NB1058_1023.out, NB1024_1058.out, NB1058_1024.out, NB1040_1058.out, NB1058_1040.out, NB1059_1058.out, NB1058_1059.out, GW1059.out, GE1059.out, NB1023_1059.out, NB1059_1023.out, NB1024_1059.out, NB1059_1024.out, NB1040_1059.out, NB1059_1040.out, (by repeat (first | (with_reducible first | exact HB.out | apply ba_ | apply bn_ | apply bd_ | refine bset_ ?_ (by assumption)) | exact HB.out))⟩)
       rintro ⟨v1043, v1051, gb1058, gb1059⟩ w65 ⟨hS_, h0_, h1_, h2_, h3_, h4_, h5_, h6_, h7_, h8_, h9_, h10_, h11_, h12_, h13_, h14_, h15_, h16_, h17_, h18_, h19_, h20_, h21_, h22_, h23_, h24_, h25_, h26_, h27_, h28_⟩
       have n0_ : Aside0 (Kd.S (Kd.slice 5 (Kd.int .u8)) 29 w65 w.heap.size (fun k_ => some k_ ≠ (.slice Ao59 x1041000_1.length co59 : Value).ownBlock) v1043 t1042) := ⟨h0_⟩
       have n1_ : Aside0 (Kd.R (Kd.int .i64) 3 w65 w.heap.size (fun k_ => some k_ ≠ (.slice Ao60 x1041006_1.length co60 : Value).ownBlock) v1051 t1050) := ⟨h1_⟩
       have n2_ : Aside0 (Kd.S (Kd.slice 5 (Kd.int .u8)) 29 w65 w.heap.size (fun k_ => some k_ ≠ (v1043 : Value).ownBlock) (.slice Ao59 x1041000_1.length co59) x1041000_1) := ⟨h2_⟩
       have n3_ : Aside0 (Kd.R (Kd.int .i64) 3 w65 w.heap.size (fun k_ => some k_ ≠ (v1051 : Value).ownBlock) (.slice Ao60 x1041006_1.length co60) x1041006_1) := ⟨h3_⟩
       have n4_ : Aside0 (Kd.R k32 32 w65 w.heap.size (fun k_ => k_ ≠ gb1059) u7 x7_1) := ⟨h4_⟩
       have n5_ : Aside0 (w65.heap[gb1023]? = some (.cells #[.slice A0_0 l0_0.length c0_0, .int .i64 a0_1, .int .i64 a0_2, .int .i64 a0_3, .int .i64 a0_4, .int .i64 a0_5, .slice A0_6 l0_6.length c0_6] 70 (0, 0))) := ⟨h5_⟩
       have n6_ : Aside0 (w65.heap[gb1024]? = some (.cells #[.slice none 0 0, .int .i64 x1025001_1, .int .i64 x1025002_1, .int .i64 x1025003_1, .int .i64 x1025004_1, .int .i64 x1025005_1, .slice none 0 0] 70 (0, 0))) := ⟨h6_⟩
       have n7_ : Aside0 (w65.heap[gb1040]? = some (.cells #[.slice Ao59 x1041000_1.length co59, .int .i64 x1041001_1, .int .i64 x1041002_1, .int .i64 x1041003_1, .int .i64 x1041004_1, .int .i64 x1041005_1, .slice Ao60 x1041006_1.length co60] 70 (0, 0))) := ⟨h7_⟩
       have n8_ : Aside0 (w65.heap[gb1058]? = some (.cells #[.slice none 0 0, .int .i64 0, .int .i64 0, .int .i64 0, .int .i64 0, .int .i64 0, .slice none 0 0] 70 (0, 0))) := ⟨h8_⟩
       have n9_ : Aside0 (w65.heap[gb1059]? = some (.cells #[.int .i64 0, .int .i64 0, .int .i64 0, .int .i64 0] 32 (0, 0))) := ⟨h9_⟩
       have n10_ : Aside0 (w.heap.size ≤ gb1058) := ⟨h10_⟩
       have n11_ : Aside0 (w.heap.size ≤ gb1058) := ⟨h11_⟩
       have n12_ : Aside0 (gb1023 ≠ gb1058) := ⟨h12_⟩
       have n13_ : Aside0 (gb1058 ≠ gb1023) := ⟨h13_⟩
       have n14_ : Aside0 (gb1024 ≠ gb1058) := ⟨h14_⟩
       have n15_ : Aside0 (gb1058 ≠ gb1024) := ⟨h15_⟩
       have n16_ : Aside0 (gb1040 ≠ gb1058) := ⟨h16_⟩
       have n17_ : Aside0 (gb1058 ≠ gb1040) := ⟨h17_⟩
       have n18_ : Aside0 (gb1059 ≠ gb1058) := ⟨h18_⟩
       have n19_ : Aside0 (gb1058 ≠ gb1059) := ⟨h19_⟩
       have n20_ : Aside0 (w.heap.size ≤ gb1059) := ⟨h20_⟩
       have n21_ : Aside0 (w.heap.size ≤ gb1059) := ⟨h21_⟩
       have n22_ : Aside0 (gb1023 ≠ gb1059) := ⟨h22_⟩
       have n23_ : Aside0 (gb1059 ≠ gb1023) := ⟨h23_⟩
       have n24_ : Aside0 (gb1024 ≠ gb1059) := ⟨h24_⟩
       have n25_ : Aside0 (gb1059 ≠ gb1024) := ⟨h25_⟩
       have n26_ : Aside0 (gb1040 ≠ gb1059) := ⟨h26_⟩
       have n27_ : Aside0 (gb1059 ≠ gb1040) := ⟨h27_⟩
       have n28_ : Aside0 (Below w.heap.size w w65) := ⟨h28_⟩
       clear HO_7
       clear HO_1041000
       clear HO_1041006
       clear BK1023
       clear BK1024
       clear BK1040
       clear HB
       clear h0_ h1_ h2_ h3_ h4_ h5_ h6_ h7_ h8_ h9_ h10_ h11_ h12_ h13_ h14_ h15_ h16_ h17_ h18_ h19_ h20_ h21_ h22_ h23_ h24_ h25_ h26_ h27_ h28_
       have HO1044 := n0_
       have HO1052 := n1_
       have HO_1041000 := n2_
       have HO_1041006 := n3_
       have HO_7 := n4_
       have BK1023 := n5_
       have BK1024 := n6_
       have BK1040 := n7_
       have BK1058 := n8_
       have BK1059 := n9_
       have GW1058 := n10_
       have GE1058 := n11_
       have NB1023_1058 := n12_
       have NB1058_1023 := n13_
       have NB1024_1058 := n14_
       have NB1058_1024 := n15_
       have NB1040_1058 := n16_
       have NB1058_1040 := n17_
       have NB1059_1058 := n18_
       have NB1058_1059 := n19_
       have GW1059 := n20_
       have GE1059 := n21_
       have NB1023_1059 := n22_
       have NB1059_1023 := n23_
       have NB1024_1059 := n24_
       have NB1059_1024 := n25_
       have NB1040_1059 := n26_
       have NB1059_1040 := n27_
       have HB := n28_
       clear n0_ n1_ n2_ n3_ n4_ n5_ n6_ n7_ n8_ n9_ n10_ n11_ n12_ n13_ n14_ n15_ n16_ n17_ n18_ n19_ n20_ n21_ n22_ n23_ n24_ n25_ n26_ n27_ n28_
       have hHeld := hS_
       obtain ⟨Ao66, co66, eo66⟩ := Kd.S_slice HO1044.out
       (first | subst eo66 | (injection eo66 with f1_ f2_ f3_; have f4_ := f1_.symm; have f5_ := f3_.symm; clear f1_ f2_ f3_; subst f4_; subst f5_))
       obtain ⟨Ao73, co73, eo73⟩ := Kd.R_slice HO1052.out
       (first | subst eo73 | (injection eo73 with f1_ f2_ f3_; have f4_ := f1_.symm; have f5_ := f3_.symm; clear f1_ f2_ f3_; subst f4_; subst f5_))
       refine norm_ (a' := ?_) ?_ ?_
       rotate_left
       ·simp only [putAll, Act.put, List.setIfInBounds_toArray, List.set_cons_zero, List.set_cons_succ]
        rfl
       refine one_ (i := 12) (N := none) #[true, true, true, true, true, true, true, true, true, true, true, true, true, false, false] rfl rfl (one_of HT_.out (by kernel_rfl)) (by decide) (fun K hK => ?_)
       have hs67 : w65.cell? ⟨gb1058, 0, none⟩ = some (.slice none 0 0) := (blk_cell BK1058.out 0).trans rfl
       have hfs67 := blk_frozen BK1058.out 0
       have hns67_0 := NB1023_1058.out
       have hns67_1 := NB1024_1058.out
       have hns67_2 := NB1040_1058.out
       have hns67_4 := NB1059_1058.out
       have hms67_0 := NB1058_1023.out
       have hms67_1 := NB1058_1024.out
       have hms67_2 := NB1058_1040.out
       have hms67_4 := NB1058_1059.out
       have hs68 : w65.cell? ⟨gb1058, 1, none⟩ = some (.int .i64 0) := (blk_cell BK1058.out 1).trans rfl
       have hfs68 := blk_frozen BK1058.out 1
       have hs69 : w65.cell? ⟨gb1058, 2, none⟩ = some (.int .i64 0) := (blk_cell BK1058.out 2).trans rfl
       have hfs69 := blk_frozen BK1058.out 2
       have hs70 : w65.cell? ⟨gb1058, 3, none⟩ = some (.int .i64 0) := (blk_cell BK1058.out 3).trans rfl
       have hfs70 := blk_frozen BK1058.out 3
       have hs71 : w65.cell? ⟨gb1058, 4, none⟩ = some (.int .i64 0) := (blk_cell BK1058.out 4).trans rfl
       have hfs71 := blk_frozen BK1058.out 4
       have hs72 : w65.cell? ⟨gb1058, 5, none⟩ = some (.int .i64 0) := (blk_cell BK1058.out 5).trans rfl
       have hfs72 := blk_frozen BK1058.out 5
       have hs74 : w65.cell? ⟨gb1058, 6, none⟩ = some (.slice none 0 0) := (blk_cell BK1058.out 6).trans rfl
       have hfs74 := blk_frozen BK1058.out 6
       refine skip_ (w1 := ?_) (by rfl) rfl ?_ ?_
       rotate_left
       ·go_simp
        rfl
       refine hK.out _ _ ⟨(by (with_reducible repeat (refine (cell_far (p := ⟨gb1058, _, none⟩) NB1040_1058.out _).trans ?_)); exact hHeld.1), (by (with_reducible repeat (refine (cell_far (p := ⟨gb1058, _, none⟩) NB1040_1058.out _).trans ?_)); exact hHeld.2.1), (by (with_reducible repeat (refine (cell_far (p := ⟨gb1058, _, none⟩) NB1040_1058.out _).trans ?_)); exact hHeld.2.2.1), (by (with_reducible repeat (refine (cell_far (p := ⟨gb1058, _, none⟩) NB1040_1058.out _).trans ?_)); exact hHeld.2.2.2.1), (by (with_reducible repeat (refine (cell_far (p := ⟨gb1058, _, none⟩) NB1040_1058.out _).trans ?_)); exact hHeld.2.2.2.2.1), (by (with_reducible repeat (refine (cell_far (p := ⟨gb1058, _, none⟩) NB1040_1058.out _).trans ?_)); exact hHeld.2.2.2.2.2.1), (by (with_reducible repeat (refine (cell_far (p := ⟨gb1058, _, none⟩) NB1040_1058.out _).trans ?_)); exact hHeld.2.2.2.2.2.2.1), (by (with_reducible repeat (refine (cell_far (p := ⟨gb1058, _, none⟩) (by first | exact Nat.ne_of_lt (Nat.lt_of_lt_of_le (by have := World.block_lt_of_cell? _ _ hw1041_0; first | rwa [add_block] at this | exact this) GW1058.out) | (rw [add_block]; exact Nat.ne_of_lt (Nat.lt_of_lt_of_le (by have := World.block_lt_of_cell? _ _ hw1041_0; first | rwa [add_block] at this | exact this) GW1058.out)) | (show (Addr.add _ _).block ≠ _; rw [add_block]; exact Nat.ne_of_lt (Nat.lt_of_lt_of_le (by have := World.block_lt_of_cell? _ _ hw1041_0; first | rwa [add_block] at this | exact this) GW1058.out)) | (dsimp only; exact Nat.ne_of_lt (Nat.lt_of_lt_of_le (by have := World.block_lt_of_cell? _ _ hw1041_0; first | rwa [add_block] at this | exact this) GW1058.out))) _).trans ?_)); exact hHeld.2.2.2.2.2.2.2.1), (by (with_reducible repeat (refine (cell_far (p := ⟨gb1058, _, none⟩) (by first | exact Nat.ne_of_lt (Nat.lt_of_lt_of_le (by have := World.block_lt_of_cell? _ _ hw1041_1; first | rwa [add_block] at this | exact this) GW1058.out) | (rw [add_block]; exact Nat.ne_of_lt (Nat.lt_of_lt_of_le (by have := World.block_lt_of_cell? _ _ hw1041_1; first | rwa [add_block] at this | exact this) GW1058.out)) | (show (Addr.add _ _).block ≠ _; rw [add_block]; exact Nat.ne_of_lt (Nat.lt_of_lt_of_le (by have := World.block_lt_of_cell? _ _ hw1041_1; first | rwa [add_block] at this | exact this) GW1058.out)) | (dsimp only; exact Nat.ne_of_lt (Nat.lt_of_lt_of_le (by have := World.block_lt_of_cell? _ _ hw1041_1; first | rwa [add_block] at this | exact this) GW1058.out))) _).trans ?_)); exact hHeld.2.2.2.2.2.2.2.2)⟩ (fun hHeld => ?_)
       clear hK K
       refine one_ (i := 13) (N := none) #[true, true, true, true, true, true, true, true, true, true, true, true, true, true, false] rfl rfl (one_of HT_.out (by kernel_rfl)) (by decide) (fun K hK => ?_)
       have hs75 : w65.cell? ⟨gb1059, 0, none⟩ = some (.int .i64 0) := (blk_cell BK1059.out 0).trans rfl
       have hfs75 := blk_frozen BK1059.out 0
       have hns75_0 := NB1023_1059.out
       have hns75_1 := NB1024_1059.out
       have hns75_2 := NB1040_1059.out
       have hns75_3 := NB1058_1059.out
       have hms75_0 := NB1059_1023.out
       have hms75_1 := NB1059_1024.out
       have hms75_2 := NB1059_1040.out
       have hms75_3 := NB1059_1058.out
       have hs76 : w65.cell? ⟨gb1059, 1, none⟩ = some (.int .i64 0) := (blk_cell BK1059.out 1).trans rfl
       have hfs76 := blk_frozen BK1059.out 1
       have hs77 : w65.cell? ⟨gb1059, 2, none⟩ = some (.int .i64 0) := (blk_cell BK1059.out 2).trans rfl
       have hfs77 := blk_frozen BK1059.out 2
       have hs78 : w65.cell? ⟨gb1059, 3, none⟩ = some (.int .i64 0) := (blk_cell BK1059.out 3).trans rfl
       have hfs78 := blk_frozen BK1059.out 3
       first | (generalize hW9_ : World.setCell _ _ _ = W9_; refine skip_ (w1 := ?_) (by rfl) rfl ?_ ?_ <;> subst hW9_) | refine skip_ (w1 := ?_) (by rfl) rfl ?_ ?_
       rotate_left
       ·go_simp
        rfl
       refine hK.out _ _ ⟨(by (with_reducible repeat (refine (cell_far (p := ⟨gb1059, _, none⟩) NB1040_1059.out _).trans ?_)); exact hHeld.1), (by (with_reducible repeat (refine (cell_far (p := ⟨gb1059, _, none⟩) NB1040_1059.out _).trans ?_)); exact hHeld.2.1), (by (with_reducible repeat (refine (cell_far (p := ⟨gb1059, _, none⟩) NB1040_1059.out _).trans ?_)); exact hHeld.2.2.1), (by (with_reducible repeat (refine (cell_far (p := ⟨gb1059, _, none⟩) NB1040_1059.out _).trans ?_)); exact hHeld.2.2.2.1), (by (with_reducible repeat (refine (cell_far (p := ⟨gb1059, _, none⟩) NB1040_1059.out _).trans ?_)); exact hHeld.2.2.2.2.1), (by (with_reducible repeat (refine (cell_far (p := ⟨gb1059, _, none⟩) NB1040_1059.out _).trans ?_)); exact hHeld.2.2.2.2.2.1), (by (with_reducible repeat (refine (cell_far (p := ⟨gb1059, _, none⟩) NB1040_1059.out _).trans ?_)); exact hHeld.2.2.2.2.2.2.1), (by (with_reducible repeat (refine (cell_far (p := ⟨gb1059, _, none⟩) (by first | exact Nat.ne_of_lt (Nat.lt_of_lt_of_le (by have := World.block_lt_of_cell? _ _ hw1041_0; first | rwa [add_block] at this | exact this) GW1059.out) | (rw [add_block]; exact Nat.ne_of_lt (Nat.lt_of_lt_of_le (by have := World.block_lt_of_cell? _ _ hw1041_0; first | rwa [add_block] at this | exact this) GW1059.out)) | (show (Addr.add _ _).block ≠ _; rw [add_block]; exact Nat.ne_of_lt (Nat.lt_of_lt_of_le (by have := World.block_lt_of_cell? _ _ hw1041_0; first | rwa [add_block] at this | exact this) GW1059.out)) | (dsimp only; exact Nat.ne_of_lt (Nat.lt_of_lt_of_le (by have := World.block_lt_of_cell? _ _ hw1041_0; first | rwa [add_block] at this | exact this) GW1059.out))) _).trans ?_)); exact hHeld.2.2.2.2.2.2.2.1), (by (with_reducible repeat (refine (cell_far (p := ⟨gb1059, _, none⟩) (by first | exact Nat.ne_of_lt (Nat.lt_of_lt_of_le (by have := World.block_lt_of_cell? _ _ hw1041_1; first | rwa [add_block] at this | exact this) GW1059.out) | (rw [add_block]; exact Nat.ne_of_lt (Nat.lt_of_lt_of_le (by have := World.block_lt_of_cell? _ _ hw1041_1; first | rwa [add_block] at this | exact this) GW1059.out)) | (show (Addr.add _ _).block ≠ _; rw [add_block]; exact Nat.ne_of_lt (Nat.lt_of_lt_of_le (by have := World.block_lt_of_cell? _ _ hw1041_1; first | rwa [add_block] at this | exact this) GW1059.out)) | (dsimp only; exact Nat.ne_of_lt (Nat.lt_of_lt_of_le (by have := World.block_lt_of_cell? _ _ hw1041_1; first | rwa [add_block] at this | exact this) GW1059.out))) _).trans ?_)); exact hHeld.2.2.2.2.2.2.2.2)⟩ (fun hHeld => ?_)
       clear hK K
       refine pure_ (i := 14) (N := some 12) (v := ?_) (a' := ?_) #[true, true, true, true, true, true, true, true, true, true, true, true, true, true, true] rfl rfl (any_of HT_.out (by kernel_rfl)) (fun _ _ _ h => h) (Or.inl ⟨by rfl, ?_⟩) ?_ ?_
       rotate_left
       ·intro w'
        go_simp
        with_reducible rfl
       rotate_left
       ·simp only [Act.put, List.setIfInBounds_toArray, List.set_cons_zero, List.set_cons_succ, i64_w, i32_w]
        rfl
       refine done_ (done_of HT_.out (by kernel_rfl)) ?_
       try go_wp2_with (first | ((with_reducible refine gate_dst (N := 43) rfl ?_); refine Kd.R_lit k32 _ 32 ?hg (N := 43) ?hd (xs := ([] : List (S32))) (inner := []) (ok := fun _ => True) (okp := fun _ => True) ?hr ?hp (fun _ hk => hk) trivial (Below.refl _ _) (Nat.le_refl _) (by simp) ?_; (case hd => rfl); (case hg => rfl); (case hr => exact gs_); (case hp => exact (Reps.none _ _)); intro v1064 w79 ho80 hb hg_ hnew_; clear hg_ hnew_; (first | rw [← Ny1063.out] at ho80 | (simp only [Int.reduceToNat] at ho80; rw [← Ny1063.out] at ho80)); replace HO_1041000 := Aside0.mk (Kd.S_below (by (with_reducible repeat first | apply ks1_ | apply ks2_ | apply ks3_); exact (Kd.S_mono (Kd.S_mono (sf4_ gb1059 (sf7_ gb1058 (Kd.S_types (Kd.S_types HO_1041000.out BK1058.out (by decide)) BK1059.out (by decide)) (fun _ hk => hk.1.2)) (fun _ hk => hk.2)) (fun _ h_ => h_.1)) (fun _ h_ => h_.1))) hb); replace HO_1041006 := Aside0.mk (Kd.R_below (by (with_reducible repeat first | apply kr1_ | apply kr2_ | apply kr3_); exact (Kd.R_mono (Kd.R_mono (rf4_ gb1059 (rf7_ gb1058 (Kd.R_types (Kd.R_types HO_1041006.out BK1058.out (by decide)) BK1059.out (by decide)) (fun _ hk => hk.1.2)) (fun _ hk => hk.2)) (fun _ h_ => h_.1)) (fun _ h_ => h_.1))) hb); replace HO1044 := Aside0.mk (Kd.S_below (by (with_reducible repeat first | apply ks1_ | apply ks2_ | apply ks3_); exact (Kd.S_mono (Kd.S_mono (sf4_ gb1059 (sf7_ gb1058 (Kd.S_types (Kd.S_types HO1044.out BK1058.out (by decide)) BK1059.out (by decide)) (fun _ hk => hk.1.2)) (fun _ hk => hk.2)) (fun _ h_ => h_.1)) (fun _ h_ => h_.1))) hb); replace HO1052 := Aside0.mk (Kd.R_below (by (with_reducible repeat first | apply kr1_ | apply kr2_ | apply kr3_); exact (Kd.R_mono (Kd.R_mono (rf4_ gb1059 (rf7_ gb1058 (Kd.R_types (Kd.R_types HO1052.out BK1058.out (by decide)) BK1059.out (by decide)) (fun _ hk => hk.1.2)) (fun _ hk => hk.2)) (fun _ h_ => h_.1)) (fun _ h_ => h_.1))) hb); have HO1065 := Aside0.mk (rL_ (Kd.R_newB (Kd.R_new' ho80 (Kd.R_lt (by (with_reducible repeat first | apply kr1_ | apply kr2_ | apply kr3_); exact (Kd.R_mono (Kd.R_mono (rf4_ gb1059 (rf7_ gb1058 (Kd.R_mono (Kd.R_types HO_7.out BK1058.out (by decide)) (fun k_ hk => (⟨hk, hk.1⟩ : _ ∧ k_ ≠ gb1059))) (fun _ hk => hk.1.2)) (fun _ hk => hk.2)) (fun _ h_ => h_.1)) (fun _ h_ => h_.1))))) (g := gb1059) (o := .cells #[.int .i64 t1053, .int .i64 t1054, .int .i64 t1055, .int .i64 t1056] 32 (0, 0)) (by exact fB_ BK1059)) HB); replace HO_7 := Aside0.mk (Kd.R_elder' (by (with_reducible repeat first | apply kr1_ | apply kr2_ | apply kr3_); exact (Kd.R_mono (Kd.R_mono (rf4_ gb1059 (rf7_ gb1058 (Kd.R_mono (Kd.R_types HO_7.out BK1058.out (by decide)) (fun k_ hk => (⟨hk, hk.1⟩ : _ ∧ k_ ≠ gb1059))) (fun _ hk => hk.1.2)) (fun _ hk => hk.2)) (fun _ h_ => h_.1)) (fun _ h_ => h_.1))) (Kd.R_base ho80) hb); replace BK1023 := Aside0.mk (blk_below (g := gb1023) (o := .cells #[.slice A0_0 l0_0.length c0_0, .int .i64 a0_1, .int .i64 a0_2, .int .i64 a0_3, .int .i64 a0_4, .int .i64 a0_5, .slice A0_6 l0_6.length c0_6] 70 (0, 0)) (by exact fB_ BK1023) hb); replace BK1024 := Aside0.mk (blk_below (g := gb1024) (o := .cells #[.slice none 0 0, .int .i64 x1025001_1, .int .i64 x1025002_1, .int .i64 x1025003_1, .int .i64 x1025004_1, .int .i64 x1025005_1, .slice none 0 0] 70 (0, 0)) (by exact fB_ BK1024) hb); replace BK1040 := Aside0.mk (blk_below (g := gb1040) (o := .cells #[.slice Ao59 x1041000_1.length co59, .int .i64 x1041001_1, .int .i64 x1041002_1, .int .i64 x1041003_1, .int .i64 x1041004_1, .int .i64 x1041005_1, .slice Ao60 x1041006_1.length co60] 70 (0, 0)) (by exact fB_ BK1040) hb); replace BK1058 := Aside0.mk (blk_below (g := gb1058) (o := .cells #[.slice Ao66 t1042.length co66, .int .i64 t1045, .int .i64 t1046, .int .i64 t1047, .int .i64 t1048, .int .i64 t1049, .slice Ao73 t1050.length co73] 70 (0, 0)) (by exact fB_ BK1058) hb); replace BK1059 := Aside0.mk (blk_below (g := gb1059) (o := .cells #[.int .i64 t1053, .int .i64 t1054, .int .i64 t1055, .int .i64 t1056] 32 (0, 0)) (by exact fB_ BK1059) hb); replace HB := Aside0.mk (below_step (by repeat (first | (with_reducible first | exact HB.out | apply ba_ | apply bn_ | apply bd_ | refine bset_ ?_ (by assumption)) | exact HB.out)) hb); clear hb ho80; have hnb81 := NB1024_1023.out; have hnc81 := NB1023_1024.out; have hnb82 := NB1024_1040.out; have hnc82 := NB1040_1024.out; have hnb83 := NB1024_1058.out; have hnc83 := NB1058_1024.out; have hnb84 := NB1024_1059.out; have hnc84 := NB1059_1024.out; obtain ⟨hcz85_0, hcz85_1, hcz85_2, hcz85_3, hcz85_4, hcz85_5, hcz85_6, hfz85_0, hfz85_1, hfz85_2, hfz85_3, hfz85_4, hfz85_5, hfz85_6⟩ := zc7_ BK1024))
       refine bodyPost_ret (results_ctt rfl _ _ gb1024 70 #[.slice none 0 0, .int .i64 0, .int .i64 0, .int .i64 0, .int .i64 0, .int .i64 0, .slice none 0 0] (0, 0) _ rfl (by exact fB_ BK1024) Try.underlying70 rfl (by kernel_rfl)) rfl ?_
       exact ⟨_, _, _, er_, by first | exact Kd.S_nil _ _ _ _ _ | exact Kd.N_nil _ _ _ _ _ | exact Kd.V_nil _ _ _ _ _ | exact Kd.Q_nil _ _ _ _ _ | exact Kd.R_nil _ _ _ _ _, by first | exact Kd.R_nil _ _ _ _ _ | exact Kd.N_nil _ _ _ _ _ | exact Kd.V_nil _ _ _ _ _ | exact Kd.Q_nil _ _ _ _ _ | exact Kd.S_nil _ _ _ _ _, by (with_reducible repeat first | apply kr1_ | apply kr2_ | apply kr3_); exact Kd.R_mono (rf7_ gb1024 (Kd.R_types HO1065.out BK1024.out (by decide)) (fun _ hk => hk.2)) (fun _ hk => trivial), by repeat (first | (with_reducible first | exact HB.out | apply below_alloc | apply pw_below_drewN | apply below_drew1 | refine below_set ?_ GE1023.out | refine below_set ?_ GE1024.out | refine below_set ?_ GE1040.out | refine below_set ?_ GE1058.out | refine below_set ?_ GE1059.out) | exact HB.out)⟩
     ·rw [if_neg c22] at H
      exact absurd H (by simp)
    ·rw [if_neg c21] at H
     have c21b0 : decide (x9_1 < (l1.length : Int)) = false := decide_eq_false c21
     clear c21
     simp only [Option.some.injEq, Prod.mk.injEq] at H
     obtain ⟨rfl, rfl, rfl, rfl, rfl, rfl, rfl, rfl, rfl⟩ := H
     have hnb86 := NB1040_1023.out
     have hnc86 := NB1023_1040.out
     have hnb87 := NB1040_1024.out
     have hnc87 := NB1024_1040.out
     obtain ⟨hcz88_0, hcz88_1, hcz88_2, hcz88_3, hcz88_4, hcz88_5, hcz88_6, hfz88_0, hfz88_1, hfz88_2, hfz88_3, hfz88_4, hfz88_5, hfz88_6⟩ := zc7_ BK1040
     obtain ⟨Ao89, co89, eo89⟩ := Kd.S_slice HO_1041000.out
     subst eo89
     have hnb90 := NB1024_1023.out
     have hnc90 := NB1023_1024.out
     obtain ⟨hcz91_0, hcz91_1, hcz91_2, hcz91_3, hcz91_4, hcz91_5, hcz91_6, hfz91_0, hfz91_1, hfz91_2, hfz91_3, hfz91_4, hfz91_5, hfz91_6⟩ := zc7_ BK1024
     obtain ⟨Ao92, co92, eo92⟩ := Kd.R_slice HO_1041006.out
     subst eo92
     go_wp2
     refine bodyPost_ret (results_ctt rfl _ _ gb1024 70 #[.slice Ao89 x1041000_1.length co89, .int .i64 x1041001_1, .int .i64 x1041002_1, .int .i64 x1041003_1, .int .i64 x1041004_1, .int .i64 x1041005_1, .slice Ao92 x1041006_1.length co92] (0, 0) _ rfl (by exact fB_ BK1024) Try.underlying70 rfl (by kernel_rfl)) rfl ?_
     exact ⟨_, _, _, er_, by (with_reducible repeat first | apply ks1_ | apply ks2_ | apply ks3_); exact Kd.S_mono (sf7_ gb1024 (Kd.S_types HO_1041000.out BK1024.out (by decide)) (fun _ hk => hk.2)) (fun _ hk => trivial), by (with_reducible repeat first | apply kr1_ | apply kr2_ | apply kr3_); exact Kd.R_mono (rf7_ gb1024 (Kd.R_types HO_1041006.out BK1024.out (by decide)) (fun _ hk => hk.2)) (fun _ hk => trivial), by (with_reducible repeat first | apply kr1_ | apply kr2_ | apply kr3_); exact Kd.R_mono (rf7_ gb1024 (Kd.R_types HO_7.out BK1024.out (by decide)) (fun _ hk => hk.2)) (fun _ hk => trivial), by repeat (first | (with_reducible first | exact HB.out | apply below_alloc | apply pw_below_drewN | apply below_drew1 | refine below_set ?_ GE1023.out | refine below_set ?_ GE1024.out | refine below_set ?_ GE1040.out) | exact HB.out)⟩
 ·replace c4 := Bool.eq_false_iff.mpr c4
  subst c4
  rw [if_neg (show ¬ (false = true) by decide)] at H
  simp only [Option.some.injEq, Prod.mk.injEq] at H
  obtain ⟨rfl, rfl, rfl, rfl, rfl, rfl, rfl, rfl, rfl⟩ := H
  go_enter Try.func47, Try.ntmps47
  go_wp2_with (first | ((with_reducible refine gate_dst (N := 2) rfl ?_); refine box_event ?hg (N := 2) ?hd (cs := #[.slice A0_0 l0_0.length c0_0, .int .i64 a0_1, .int .i64 a0_2, .int .i64 a0_3, .int .i64 a0_4, .int .i64 a0_5, .slice A0_6 l0_6.length c0_6]) (t := 70) ?hr ?_; (case hd => rfl); (case hg => rfl); (case hr => exact gs_); intro gb1023 hg w93 hbox hb; have BK1023 := Aside0.mk (hbox); have GW1023 := gE_ HB hg; have GE1023 := gE_ HB hg; replace HB := Aside0.mk (below_step (by repeat (first | (with_reducible first | exact HB.out | apply ba_ | apply bn_ | apply bd_) | exact HB.out)) hb); clear hb hbox hg) | ((with_reducible refine gate_dst (N := 4) rfl ?_); refine box_event ?hg (N := 4) ?hd (cs := #[.slice none 0 0, .int .i64 0, .int .i64 0, .int .i64 0, .int .i64 0, .int .i64 0, .slice none 0 0]) (t := 70) ?hr ?_; (case hd => rfl); (case hg => rfl); (case hr => exact gs_); intro gb1024 hg w94 hbox hb; have BK1024 := Aside0.mk (hbox); have GW1024 := gE_ HB hg; have GE1024 := gE_ HB hg; replace HB := Aside0.mk (below_step (by repeat (first | (with_reducible first | exact HB.out | apply ba_ | apply bn_ | apply bd_ | refine bset_ ?_ (by assumption)) | exact HB.out)) hb); have NB1023_1024 := nB_ BK1023 hg; have NB1024_1023 := nA_ BK1023 hg; replace BK1023 := bB_ BK1023 hb; clear hb hbox hg) | ((with_reducible refine gate_dst (N := 13) rfl ?_); refine Kd.R_lit k32 _ 32 ?hg (N := 13) ?hd (xs := ([] : List (S32))) (inner := []) (ok := fun _ => True) (okp := fun _ => True) ?hr ?hp (fun _ hk => hk) trivial (Below.refl _ _) (Nat.le_refl _) (by simp) ?_; (case hd => rfl); (case hg => rfl); (case hr => exact gs_); (case hp => exact (Reps.none _ _)); intro v1026 w95 ho96 hb hg_ hnew_; clear hg_ hnew_; (first | rw [← Ny1025.out] at ho96 | (simp only [Int.reduceToNat] at ho96; rw [← Ny1025.out] at ho96)); have HO1027 := Aside0.mk (rL_ ho96 HB); replace BK1023 := bB_ BK1023 hb; replace BK1024 := bB_ BK1024 hb; replace HB := Aside0.mk (below_step (by repeat (first | (with_reducible first | exact HB.out | apply ba_ | apply bn_ | apply bd_ | refine bset_ ?_ (by assumption)) | exact HB.out)) hb); clear hb ho96; have hnb97 := NB1023_1024.out; have hnc97 := NB1024_1023.out; obtain ⟨hcz98_0, hcz98_1, hcz98_2, hcz98_3, hcz98_4, hcz98_5, hcz98_6, hfz98_0, hfz98_1, hfz98_2, hfz98_3, hfz98_4, hfz98_5, hfz98_6⟩ := zc7_ BK1023) | ((with_reducible refine gate_callee (f := 108) rfl ?_); refine goesL_ (some 16) rfl rfl Try.func108 (by kernel_rfl) rfl #[.agg #[.slice A0_0 l0_0.length c0_0, .int .i64 a0_1, .int .i64 a0_2, .int .i64 a0_3, .int .i64 a0_4, .int .i64 a0_5, .slice A0_6 l0_6.length c0_6], .slice A1 l1.length c1] rfl ar_ ?_; (with_reducible refine (spec_l8List.calls k _ _ l0_0 a0_1 a0_2 a0_3 a0_4 a0_5 _ _ l0_6 _ _ l1 false _ ?side1 ?side2 ?side3 ?side4 ?side5 ?side6 A3.out).mono ?_); (case side1 => exact cS_ (Kd.C_below HR0_0.out HB.out)); (case side2 => exact HC0_0.out); (case side3 => exact cS_ (Kd.C_below HR0_6.out HB.out)); (case side4 => exact HC0_6.out); (case side5 => exact cS_ (Kd.C_below HR1.out HB.out)); (case side6 => exact HC1.out); rintro e w99 ⟨rfl, hb⟩; refine ⟨_, rfl, ?_⟩; replace HO1027 := Aside0.mk (Kd.R_below (rK_ HO1027) hb); replace BK1023 := bB_ BK1023 hb; replace BK1024 := bB_ BK1024 hb; replace HB := Aside0.mk (below_step (by repeat (first | (with_reducible first | exact HB.out | apply ba_ | apply bn_ | apply bd_ | refine bset_ ?_ (by assumption)) | exact HB.out)) hb); (try clear hb); (try clear hb2); (try clear hk); (try clear hi); obtain ⟨hcz100_0, hcz100_1, hcz100_2, hcz100_3, hcz100_4, hcz100_5, hcz100_6, hfz100_0, hfz100_1, hfz100_2, hfz100_3, hfz100_4, hfz100_5, hfz100_6⟩ := zc7_ BK1024))
  refine bodyPost_ret (results_ctt rfl _ _ gb1024 70 #[.slice none 0 0, .int .i64 0, .int .i64 0, .int .i64 0, .int .i64 0, .int .i64 0, .slice none 0 0] (0, 0) _ rfl (by exact fB_ BK1024) Try.underlying70 rfl (by kernel_rfl)) rfl ?_
  exact ⟨_, _, _, er_, by first | exact Kd.S_nil _ _ _ _ _ | exact Kd.N_nil _ _ _ _ _ | exact Kd.V_nil _ _ _ _ _ | exact Kd.Q_nil _ _ _ _ _ | exact Kd.R_nil _ _ _ _ _, by first | exact Kd.R_nil _ _ _ _ _ | exact Kd.N_nil _ _ _ _ _ | exact Kd.V_nil _ _ _ _ _ | exact Kd.Q_nil _ _ _ _ _ | exact Kd.S_nil _ _ _ _ _, by (with_reducible repeat first | apply kr1_ | apply kr2_ | apply kr3_); exact Kd.R_mono (rf7_ gb1024 (Kd.R_types HO1027.out BK1024.out (by decide)) (fun _ hk => hk.2)) (fun _ hk => trivial), by repeat (first | (with_reducible first | exact HB.out | apply below_alloc | apply pw_below_drewN | apply below_drew1 | refine below_set ?_ GE1023.out | refine below_set ?_ GE1024.out) | exact HB.out)⟩
end Go.Proofs.Ytmkcbbbknbahgaa.P
namespace Go.Proofs.Ytmkcbbbknbahgaa.P
open Go.RowKit Go.Proofs.YtmkcbbbknbahgaaW.PrintWords Go.Proofs.YtmkcbbbknbahgaaW.PrintLast Go.Proofs.YtmkcbbbknbahgaaW.PrintMore
attribute [local go_sem] max2_int min2_int max_two min_two max_three min_three max_four min_four   -- for this text's walks alone
set_option linter.unusedVariables false
set_option linter.unusedSimpArgs false

def laws_toAsked.f (a0_0 : Int) (a0_1 : Int) : Option (Int × Int) := some (a0_0, a0_1)

set_option maxHeartbeats 8000000 in
set_option maxRecDepth 100000 in
theorem laws_toAsked.calls (a0_0 : Int) (a0_1 : Int) (r1 : Int) (r2 : Int) (w : World) (h : laws_toAsked.f a0_0 a0_1 = some (r1, r2)) :
  Calls Try.prog 38 #[.agg #[.int .i64 a0_0, .int .i64 a0_1]] w fun e w' => e = .returned (.agg #[.int .i64 r1, .int .i64 r2]) ∧ Below w.heap.size w w' := by
 have hu67 := Try.underlying67
 have hu74 := Try.underlying74
 have HB := Aside0.mk (Below.refl w.heap.size w)
 have H : (some (a0_0, a0_1)) = some (r1, r2) := h
 clear h
 simp only [Option.some.injEq, Prod.mk.injEq] at H
 obtain ⟨rfl, rfl⟩ := H
 go_enter Try.func38, Try.ntmps38
 go_wp2_with (first | ((with_reducible refine gate_dst (N := 1) rfl ?_); refine box_event ?hg (N := 1) ?hd (cs := #[.int .i64 a0_0, .int .i64 a0_1]) (t := 67) ?hr ?_; (case hd => rfl); (case hg => rfl); (case hr => exact gs_); intro gb760 hg w2 hbox hb; have BK760 := Aside0.mk (hbox); have GW760 := gE_ HB hg; have GE760 := gE_ HB hg; replace HB := Aside0.mk (below_step (by repeat (first | (with_reducible first | exact HB.out | apply ba_ | apply bn_ | apply bd_) | exact HB.out)) hb); clear hb hbox hg) | ((with_reducible refine gate_dst (N := 2) rfl ?_); refine box_event ?hg (N := 2) ?hd (cs := #[.int .i64 0, .int .i64 0]) (t := 74) ?hr ?_; (case hd => rfl); (case hg => rfl); (case hr => exact gs_); intro gb761 hg w3 hbox hb; have BK761 := Aside0.mk (hbox); have GW761 := gE_ HB hg; have GE761 := gE_ HB hg; replace HB := Aside0.mk (below_step (by repeat (first | (with_reducible first | exact HB.out | apply ba_ | apply bn_ | apply bd_ | refine bset_ ?_ (by assumption)) | exact HB.out)) hb); have NB760_761 := nB_ BK760 hg; have NB761_760 := nA_ BK760 hg; replace BK760 := bB_ BK760 hb; clear hb hbox hg) | ((with_reducible refine gate_dst (N := 3) rfl ?_); refine box_event ?hg (N := 3) ?hd (cs := #[.int .i64 0, .int .i64 0]) (t := 74) ?hr ?_; (case hd => rfl); (case hg => rfl); (case hr => exact gs_); intro gb762 hg w4 hbox hb; have BK762 := Aside0.mk (hbox); have GW762 := gE_ HB hg; have GE762 := gE_ HB hg; replace HB := Aside0.mk (below_step (by repeat (first | (with_reducible first | exact HB.out | apply ba_ | apply bn_ | apply bd_ | refine bset_ ?_ (by assumption)) | exact HB.out)) hb); have NB760_762 := nB_ BK760 hg; have NB762_760 := nA_ BK760 hg; replace BK760 := bB_ BK760 hb; have NB761_762 := nB_ BK761 hg; have NB762_761 := nA_ BK761 hg; replace BK761 := bB_ BK761 hb; clear hb hbox hg; have hnb5 := NB760_761.out; have hnc5 := NB761_760.out; have hnb6 := NB760_762.out; have hnc6 := NB762_760.out; obtain ⟨hcz7_0, hcz7_1, hfz7_0, hfz7_1⟩ := zc2_ BK760; have hnb8 := NB762_761.out; have hnc8 := NB761_762.out; obtain ⟨hcz9_0, hcz9_1, hfz9_0, hfz9_1⟩ := zc2_ BK762; obtain ⟨hcz10_0, hcz10_1, hfz10_0, hfz10_1⟩ := zc2_ BK761))
 refine bodyPost_ret (results_cell_row rfl _ _ gb761 74 #[.int .i64 a0_0, .int .i64 a0_1] (0, 0) _ rfl (by exact fB_ BK761) Try.underlying74 rfl (by kernel_rfl)) rfl ?_
 exact ⟨er_, by repeat (first | (with_reducible first | exact HB.out | apply below_alloc | apply pw_below_drewN | apply below_drew1 | refine below_set ?_ GE760.out | refine below_set ?_ GE761.out | refine below_set ?_ GE762.out) | exact HB.out)⟩
end Go.Proofs.Ytmkcbbbknbahgaa.P
