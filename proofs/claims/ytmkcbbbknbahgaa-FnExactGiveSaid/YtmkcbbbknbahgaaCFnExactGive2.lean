/- Part 2 of the proof of FnExactGive: contracts of functions that the law reaches. Conditions: none. -/
import Derived.Test.YtmkcbbbknbahgaaCFnExactGive1
import Derived.WalkSpells
namespace Go.Proofs.Ytmkcbbbknbahgaa.P
open Go.RowKit Go.Proofs.YtmkcbbbknbahgaaW.PrintWords Go.Proofs.YtmkcbbbknbahgaaW.PrintLast Go.Proofs.YtmkcbbbknbahgaaW.PrintMore
attribute [local go_sem] max2_int min2_int max_two min_two max_three min_three max_four min_four   -- for this text's walks alone
set_option linter.unusedVariables false
set_option linter.unusedSimpArgs false

def impl_IsArena.j0 : Nat → Bool → List (List Int) → Int → Int → Int → Int → Int → List Int → Option (Bool)
 | 0, _, _, _, _, _, _, _, _ => none
 | k + 1, x24, x771000, x771001, x771002, x771003, x771004, x771005, x771006 => if x24 = true then (some false) else ((impl_allWithin.f k x771006 0 x771005).bind fun t776 => (if t776 = true then ((slices_IsSorted_int_int.f k x771006).bind fun t777 => (some t777)) else (some false)))

def impl_IsArena.f (k : Nat) (l0_0 : List (List Int)) (a0_1 : Int) (a0_2 : Int) (a0_3 : Int) (a0_4 : Int) (a0_5 : Int) (l0_6 : List Int) : Option (Bool) := (impl_areOn.f k l0_0 (([(⟨a0_1, a0_2, a0_3, a0_4⟩ : S32)] : List (S32)))).bind fun t774 => (if t774 = true then ((impl_within.f a0_5 0 a0_3).bind fun t775 => (if t775 = true then (impl_IsArena.j0 k (decide ((l0_6.length : Int) > 8)) l0_0 a0_1 a0_2 a0_3 a0_4 a0_5 l0_6) else (impl_IsArena.j0 k true l0_0 a0_1 a0_2 a0_3 a0_4 a0_5 l0_6))) else (impl_IsArena.j0 k true l0_0 a0_1 a0_2 a0_3 a0_4 a0_5 l0_6))

set_option maxHeartbeats 8000000 in
set_option maxRecDepth 100000 in
theorem impl_IsArena.calls (k : Nat) (A0_0 : Option Addr) (c0_0 : Nat) (l0_0 : List (List Int)) (a0_1 : Int) (a0_2 : Int) (a0_3 : Int) (a0_4 : Int) (a0_5 : Int) (A0_6 : Option Addr) (c0_6 : Nat) (l0_6 : List Int) (r : Bool) (w : World) (hr0_0 : Kd.C (Kd.slice 5 (Kd.int .u8)) w A0_0 l0_0.length l0_0) (hc0_0 : l0_0.length ≤ c0_0) (hr0_6 : Kd.C (Kd.int .i64) w A0_6 l0_6.length l0_6) (hc0_6 : l0_6.length ≤ c0_6) (h : impl_IsArena.f k l0_0 a0_1 a0_2 a0_3 a0_4 a0_5 l0_6 = some r) :
  Calls Try.prog 152 #[.agg #[.slice A0_0 l0_0.length c0_0, .int .i64 a0_1, .int .i64 a0_2, .int .i64 a0_3, .int .i64 a0_4, .int .i64 a0_5, .slice A0_6 l0_6.length c0_6]] w fun e w' => e = .returned (.bool r) ∧ Below w.heap.size w w' := by
 have hu70 := Try.underlying70
 have hu31 := Try.underlying31
 have hu32 := Try.underlying32
 have HR0_0 := Aside0.mk hr0_0
 have HC0_0 := Aside0.mk hc0_0
 clear hr0_0 hc0_0
 have HR0_6 := Aside0.mk hr0_6
 have HC0_6 := Aside0.mk hc0_6
 clear hr0_6 hc0_6
 have HB := Aside0.mk (Below.refl w.heap.size w)
 have H : ((impl_areOn.f k l0_0 (([(⟨a0_1, a0_2, a0_3, a0_4⟩ : S32)] : List (S32)))).bind fun t774 => (if t774 = true then ((impl_within.f a0_5 0 a0_3).bind fun t775 => (if t775 = true then (impl_IsArena.j0 k (decide ((l0_6.length : Int) > 8)) l0_0 a0_1 a0_2 a0_3 a0_4 a0_5 l0_6) else (impl_IsArena.j0 k true l0_0 a0_1 a0_2 a0_3 a0_4 a0_5 l0_6))) else (impl_IsArena.j0 k true l0_0 a0_1 a0_2 a0_3 a0_4 a0_5 l0_6))) = some r := h
 clear h
 have HC2 := Aside0.mk H
 clear H
 go_enter Try.func152, Try.ntmps152
 go_upto_region 1 with (first | ((with_reducible refine gate_dst (N := 1) rfl ?_); (try (refine gate_guard (by rfl) ?_; dsimp only)); refine box_event ?hg (N := 1) ?hd (cs := #[.slice A0_0 l0_0.length c0_0, .int .i64 a0_1, .int .i64 a0_2, .int .i64 a0_3, .int .i64 a0_4, .int .i64 a0_5, .slice A0_6 l0_6.length c0_6]) (t := 70) ?hr ?_; (case hd => rfl); (case hg => rfl); (case hr => exact gs_); intro gb770 hg w3 hbox hb; have BK770 := Aside0.mk (hbox); have GW770 := gE_ HB hg; have GE770 := gE_ HB hg; replace HB := Aside0.mk (below_step (by repeat (first | (with_reducible first | exact HB.out | apply ba_ | apply bn_ | apply bd_) | exact HB.out)) hb); clear hb hbox hg))
 (try simp only [Act.put, List.setIfInBounds_toArray, List.set_cons_zero, List.set_cons_succ])
 go_cut [24] (fun v24 wc => ∃ (kq : Nat) (x24_1 : Bool), v24 = .bool x24_1 ∧ Aside0 (impl_IsArena.j0 kq x24_1 l0_0 a0_1 a0_2 a0_3 a0_4 a0_5 l0_6 = some r) ∧ Aside0 (kq ≤ k) ∧ Aside0 (wc.heap[gb770]? = some (.cells #[(.slice A0_0 l0_0.length c0_0), .int .i64 a0_1, .int .i64 a0_2, .int .i64 a0_3, .int .i64 a0_4, .int .i64 a0_5, (.slice A0_6 l0_6.length c0_6)] 70 (0, 0))) ∧ Aside0 (Below w.heap.size w wc))
 case first =>
  have H := HC2.out
  clear HC2
  obtain ⟨y771, hy771⟩ : ∃ y_ : List (S32), y_ = (([(⟨a0_1, a0_2, a0_3, a0_4⟩ : S32)] : List (S32))) := ⟨_, rfl⟩
  replace H : ((impl_areOn.f k l0_0 y771).bind fun t774 => (if t774 = true then ((impl_within.f a0_5 0 a0_3).bind fun t775 => (if t775 = true then (impl_IsArena.j0 k (decide ((l0_6.length : Int) > 8)) l0_0 a0_1 a0_2 a0_3 a0_4 a0_5 l0_6) else (impl_IsArena.j0 k true l0_0 a0_1 a0_2 a0_3 a0_4 a0_5 l0_6))) else (impl_IsArena.j0 k true l0_0 a0_1 a0_2 a0_3 a0_4 a0_5 l0_6))) = some r := by first | (rw [hy771]; with_reducible exact H) | (have H2_ := (Option.bind_some _ _).symm.trans H; rw [hy771]; with_reducible exact H2_) | (have H2_ := (Option.bind_some _ _).symm.trans H; with_reducible exact H2_) | with_reducible exact H | (rw [hy771]; exact H) | exact H
  have Ny771 := Aside0.mk hy771
  clear hy771
  replace H := Option.bind_eq_some_iff.mp H
  obtain ⟨t774, A40, H⟩ := H
  replace H : (if t774 = true then ((impl_within.f a0_5 0 a0_3).bind fun t775 => (if t775 = true then (impl_IsArena.j0 k (decide ((l0_6.length : Int) > 8)) l0_0 a0_1 a0_2 a0_3 a0_4 a0_5 l0_6) else (impl_IsArena.j0 k true l0_0 a0_1 a0_2 a0_3 a0_4 a0_5 l0_6))) else (impl_IsArena.j0 k true l0_0 a0_1 a0_2 a0_3 a0_4 a0_5 l0_6)) = some r := H
  have A4 := Aside0.mk A40
  clear A40
  by_cases c5 : t774 = true
  ·subst c5
   rw [if_pos rfl] at H
   replace H := Option.bind_eq_some_iff.mp H
   obtain ⟨t775, A60, H⟩ := H
   replace H : (if t775 = true then (impl_IsArena.j0 k (decide ((l0_6.length : Int) > 8)) l0_0 a0_1 a0_2 a0_3 a0_4 a0_5 l0_6) else (impl_IsArena.j0 k true l0_0 a0_1 a0_2 a0_3 a0_4 a0_5 l0_6)) = some r := H
   have A6 := Aside0.mk A60
   clear A60
   by_cases c7 : t775 = true
   ·subst c7
    rw [if_pos rfl] at H
    have H' := Aside0.mk H
    clear H
    have hcz8_0 : w3.cell? ⟨gb770, 0, none⟩ = some (.slice A0_0 l0_0.length c0_0) := (blk_cell BK770.out 0).trans rfl
    have hcz8_1 : w3.cell? ⟨gb770, 1, none⟩ = some (.int .i64 a0_1) := (blk_cell BK770.out 1).trans rfl
    have hcz8_2 : w3.cell? ⟨gb770, 2, none⟩ = some (.int .i64 a0_2) := (blk_cell BK770.out 2).trans rfl
    have hcz8_3 : w3.cell? ⟨gb770, 3, none⟩ = some (.int .i64 a0_3) := (blk_cell BK770.out 3).trans rfl
    have hcz8_4 : w3.cell? ⟨gb770, 4, none⟩ = some (.int .i64 a0_4) := (blk_cell BK770.out 4).trans rfl
    have hcz8_5 : w3.cell? ⟨gb770, 5, none⟩ = some (.int .i64 a0_5) := (blk_cell BK770.out 5).trans rfl
    have hcz8_6 : w3.cell? ⟨gb770, 6, none⟩ = some (.slice A0_6 l0_6.length c0_6) := (blk_cell BK770.out 6).trans rfl
    have hfz8_0 := blk_frozen BK770.out 0
    have hfz8_1 := blk_frozen BK770.out 1
    have hfz8_2 := blk_frozen BK770.out 2
    have hfz8_3 := blk_frozen BK770.out 3
    have hfz8_4 := blk_frozen BK770.out 4
    have hfz8_5 := blk_frozen BK770.out 5
    have hfz8_6 := blk_frozen BK770.out 6
    go_wp2_with (first | ((with_reducible refine gate_dst (N := 7) rfl ?_); (try (refine gate_guard (by rfl) ?_; dsimp only)); refine Kd.R_lit k32 _ 32 ?hg (N := 7) ?hd (xs := ([(⟨a0_1, a0_2, a0_3, a0_4⟩ : S32)] : List (S32))) (inner := [.int .i64 a0_1, .int .i64 a0_2, .int .i64 a0_3, .int .i64 a0_4]) (ok := fun _ => True) (okp := fun _ => True) ?hr ?hp (fun _ hk => hk) trivial (Below.refl _ _) (Nat.le_refl _) (by simp) ?_; (case hd => rfl); (case hg => rfl); (case hr => exact gs_); (case hp => exact (Reps.c4 (show Kd.M k32 _ _ _ (⟨a0_1, a0_2, a0_3, a0_4⟩ : S32) [.int .i64 a0_1, .int .i64 a0_2, .int .i64 a0_3, .int .i64 a0_4] from (k32_mkM _ _ _ (⟨a0_1, a0_2, a0_3, a0_4⟩ : S32) )) (Reps.none _ _))); intro v772 w9 ho10 hb hg_ hnew_; clear hg_ hnew_; (first | rw [← Ny771.out] at ho10 | (simp only [Int.reduceToNat] at ho10; rw [← Ny771.out] at ho10)); have HO773 := Aside0.mk (rL_ ho10 HB); replace BK770 := bB_ BK770 hb; replace HB := Aside0.mk (below_step (by repeat (first | (with_reducible first | exact HB.out | apply ba_ | apply bn_ | apply bd_ | refine bset_ ?_ (by assumption)) | exact HB.out)) hb); clear hb ho10; obtain ⟨Ao11, co11, eo11⟩ := Kd.R_slice HO773.out; subst eo11) | ((with_reducible refine gate_callee (f := 146) rfl ?_); refine goesL_ (some 8) rfl rfl Try.func146 (by kernel_rfl) rfl #[.agg #[.slice A0_0 l0_0.length c0_0], .slice Ao11 y771.length co11] rfl ar_ ?_; (with_reducible refine (impl_areOn.calls k _ _ l0_0 _ _ y771 true _ ?side1 ?side2 ?side3 ?side4 A4.out).mono ?_); (case side1 => repeat (first | exact (Kd.C_below HR0_0.out HB.out) | (with_reducible refine Kd.C_alloc ?_ _) | (with_reducible refine Kd.C_drewN ?_ _) | (with_reducible refine Kd.C_drew ?_))); (case side2 => exact HC0_0.out); (case side3 => repeat (first | exact (Kd.R_reads' HO773.out).2.2 | (with_reducible refine Kd.C_alloc ?_ _) | (with_reducible refine Kd.C_drewN ?_ _) | (with_reducible refine Kd.C_drew ?_))); (case side4 => exact (Kd.R_reads' HO773.out).2.1); rintro e w12 ⟨rfl, hb⟩; refine ⟨_, rfl, ?_⟩; replace HO773 := Aside0.mk (Kd.R_below (rK_ HO773) hb); replace BK770 := bB_ BK770 hb; replace HB := Aside0.mk (below_step (by repeat (first | (with_reducible first | exact HB.out | apply ba_ | apply bn_ | apply bd_ | refine bset_ ?_ (by assumption)) | exact HB.out)) hb); (try clear hb); (try clear hb2); (try clear hk); (try clear hi); have hcz13_0 : w12.cell? ⟨gb770, 0, none⟩ = some (.slice A0_0 l0_0.length c0_0) := (blk_cell BK770.out 0).trans rfl; have hcz13_1 : w12.cell? ⟨gb770, 1, none⟩ = some (.int .i64 a0_1) := (blk_cell BK770.out 1).trans rfl; have hcz13_2 : w12.cell? ⟨gb770, 2, none⟩ = some (.int .i64 a0_2) := (blk_cell BK770.out 2).trans rfl; have hcz13_3 : w12.cell? ⟨gb770, 3, none⟩ = some (.int .i64 a0_3) := (blk_cell BK770.out 3).trans rfl; have hcz13_4 : w12.cell? ⟨gb770, 4, none⟩ = some (.int .i64 a0_4) := (blk_cell BK770.out 4).trans rfl; have hcz13_5 : w12.cell? ⟨gb770, 5, none⟩ = some (.int .i64 a0_5) := (blk_cell BK770.out 5).trans rfl; have hcz13_6 : w12.cell? ⟨gb770, 6, none⟩ = some (.slice A0_6 l0_6.length c0_6) := (blk_cell BK770.out 6).trans rfl; have hfz13_0 := blk_frozen BK770.out 0; have hfz13_1 := blk_frozen BK770.out 1; have hfz13_2 := blk_frozen BK770.out 2; have hfz13_3 := blk_frozen BK770.out 3; have hfz13_4 := blk_frozen BK770.out 4; have hfz13_5 := blk_frozen BK770.out 5; have hfz13_6 := blk_frozen BK770.out 6) | (go_at_call 123; (with_reducible refine (impl_within.calls a0_5 0 a0_3 true _ A6.out).mono ?_); rintro e w' ⟨rfl, ⟨nd, rfl⟩⟩))
    go_meet
    case rel => exact ⟨_, (decide ((l0_6.length : Int) > 8)), (by first | rfl | (simp; done) | (simp [*]; done)), H', ⟨by first | omega | exact Nat.le_refl _⟩, ⟨by (with_reducible repeat first | apply kb1_ | apply kb2_ | apply kb3_); exact BK770.out⟩, ⟨by repeat (first | (with_reducible first | exact HB.out | apply below_alloc | apply pw_below_drewN | apply below_drew1 | refine below_set ?_ GE770.out) | exact HB.out)⟩⟩
   ·replace c7 := Bool.eq_false_iff.mpr c7
    subst c7
    rw [if_neg (show ¬ (false = true) by decide)] at H
    have H' := Aside0.mk H
    clear H
    have hcz14_0 : w3.cell? ⟨gb770, 0, none⟩ = some (.slice A0_0 l0_0.length c0_0) := (blk_cell BK770.out 0).trans rfl
    have hcz14_1 : w3.cell? ⟨gb770, 1, none⟩ = some (.int .i64 a0_1) := (blk_cell BK770.out 1).trans rfl
    have hcz14_2 : w3.cell? ⟨gb770, 2, none⟩ = some (.int .i64 a0_2) := (blk_cell BK770.out 2).trans rfl
    have hcz14_3 : w3.cell? ⟨gb770, 3, none⟩ = some (.int .i64 a0_3) := (blk_cell BK770.out 3).trans rfl
    have hcz14_4 : w3.cell? ⟨gb770, 4, none⟩ = some (.int .i64 a0_4) := (blk_cell BK770.out 4).trans rfl
    have hcz14_5 : w3.cell? ⟨gb770, 5, none⟩ = some (.int .i64 a0_5) := (blk_cell BK770.out 5).trans rfl
    have hcz14_6 : w3.cell? ⟨gb770, 6, none⟩ = some (.slice A0_6 l0_6.length c0_6) := (blk_cell BK770.out 6).trans rfl
    have hfz14_0 := blk_frozen BK770.out 0
    have hfz14_1 := blk_frozen BK770.out 1
    have hfz14_2 := blk_frozen BK770.out 2
    have hfz14_3 := blk_frozen BK770.out 3
    have hfz14_4 := blk_frozen BK770.out 4
    have hfz14_5 := blk_frozen BK770.out 5
    have hfz14_6 := blk_frozen BK770.out 6
    go_wp2_with (first | ((with_reducible refine gate_dst (N := 7) rfl ?_); (try (refine gate_guard (by rfl) ?_; dsimp only)); refine Kd.R_lit k32 _ 32 ?hg (N := 7) ?hd (xs := ([(⟨a0_1, a0_2, a0_3, a0_4⟩ : S32)] : List (S32))) (inner := [.int .i64 a0_1, .int .i64 a0_2, .int .i64 a0_3, .int .i64 a0_4]) (ok := fun _ => True) (okp := fun _ => True) ?hr ?hp (fun _ hk => hk) trivial (Below.refl _ _) (Nat.le_refl _) (by simp) ?_; (case hd => rfl); (case hg => rfl); (case hr => exact gs_); (case hp => exact (Reps.c4 (show Kd.M k32 _ _ _ (⟨a0_1, a0_2, a0_3, a0_4⟩ : S32) [.int .i64 a0_1, .int .i64 a0_2, .int .i64 a0_3, .int .i64 a0_4] from (k32_mkM _ _ _ (⟨a0_1, a0_2, a0_3, a0_4⟩ : S32) )) (Reps.none _ _))); intro v772 w15 ho16 hb hg_ hnew_; clear hg_ hnew_; (first | rw [← Ny771.out] at ho16 | (simp only [Int.reduceToNat] at ho16; rw [← Ny771.out] at ho16)); have HO773 := Aside0.mk (rL_ ho16 HB); replace BK770 := bB_ BK770 hb; replace HB := Aside0.mk (below_step (by repeat (first | (with_reducible first | exact HB.out | apply ba_ | apply bn_ | apply bd_ | refine bset_ ?_ (by assumption)) | exact HB.out)) hb); clear hb ho16; obtain ⟨Ao17, co17, eo17⟩ := Kd.R_slice HO773.out; subst eo17) | ((with_reducible refine gate_callee (f := 146) rfl ?_); refine goesL_ (some 8) rfl rfl Try.func146 (by kernel_rfl) rfl #[.agg #[.slice A0_0 l0_0.length c0_0], .slice Ao17 y771.length co17] rfl ar_ ?_; (with_reducible refine (impl_areOn.calls k _ _ l0_0 _ _ y771 true _ ?side1 ?side2 ?side3 ?side4 A4.out).mono ?_); (case side1 => repeat (first | exact (Kd.C_below HR0_0.out HB.out) | (with_reducible refine Kd.C_alloc ?_ _) | (with_reducible refine Kd.C_drewN ?_ _) | (with_reducible refine Kd.C_drew ?_))); (case side2 => exact HC0_0.out); (case side3 => repeat (first | exact (Kd.R_reads' HO773.out).2.2 | (with_reducible refine Kd.C_alloc ?_ _) | (with_reducible refine Kd.C_drewN ?_ _) | (with_reducible refine Kd.C_drew ?_))); (case side4 => exact (Kd.R_reads' HO773.out).2.1); rintro e w18 ⟨rfl, hb⟩; refine ⟨_, rfl, ?_⟩; replace HO773 := Aside0.mk (Kd.R_below (rK_ HO773) hb); replace BK770 := bB_ BK770 hb; replace HB := Aside0.mk (below_step (by repeat (first | (with_reducible first | exact HB.out | apply ba_ | apply bn_ | apply bd_ | refine bset_ ?_ (by assumption)) | exact HB.out)) hb); (try clear hb); (try clear hb2); (try clear hk); (try clear hi); have hcz19_0 : w18.cell? ⟨gb770, 0, none⟩ = some (.slice A0_0 l0_0.length c0_0) := (blk_cell BK770.out 0).trans rfl; have hcz19_1 : w18.cell? ⟨gb770, 1, none⟩ = some (.int .i64 a0_1) := (blk_cell BK770.out 1).trans rfl; have hcz19_2 : w18.cell? ⟨gb770, 2, none⟩ = some (.int .i64 a0_2) := (blk_cell BK770.out 2).trans rfl; have hcz19_3 : w18.cell? ⟨gb770, 3, none⟩ = some (.int .i64 a0_3) := (blk_cell BK770.out 3).trans rfl; have hcz19_4 : w18.cell? ⟨gb770, 4, none⟩ = some (.int .i64 a0_4) := (blk_cell BK770.out 4).trans rfl; have hcz19_5 : w18.cell? ⟨gb770, 5, none⟩ = some (.int .i64 a0_5) := (blk_cell BK770.out 5).trans rfl; have hcz19_6 : w18.cell? ⟨gb770, 6, none⟩ = some (.slice A0_6 l0_6.length c0_6) := (blk_cell BK770.out 6).trans rfl; have hfz19_0 := blk_frozen BK770.out 0; have hfz19_1 := blk_frozen BK770.out 1; have hfz19_2 := blk_frozen BK770.out 2; have hfz19_3 := blk_frozen BK770.out 3; have hfz19_4 := blk_frozen BK770.out 4; have hfz19_5 := blk_frozen BK770.out 5; have hfz19_6 := blk_frozen BK770.out 6) | (go_at_call 123; (with_reducible refine (impl_within.calls a0_5 0 a0_3 false _ A6.out).mono ?_); rintro e w' ⟨rfl, ⟨nd, rfl⟩⟩))
    go_meet
    case rel => exact ⟨_, (true), (by first | rfl | (simp; done) | (simp [*]; done)), H', ⟨by first | omega | exact Nat.le_refl _⟩, ⟨by (with_reducible repeat first | apply kb1_ | apply kb2_ | apply kb3_); exact BK770.out⟩, ⟨by repeat (first | (with_reducible first | exact HB.out | apply below_alloc | apply pw_below_drewN | apply below_drew1 | refine below_set ?_ GE770.out) | exact HB.out)⟩⟩
  ·replace c5 := Bool.eq_false_iff.mpr c5
   subst c5
   rw [if_neg (show ¬ (false = true) by decide)] at H
   have H' := Aside0.mk H
   clear H
   have hcz20_0 : w3.cell? ⟨gb770, 0, none⟩ = some (.slice A0_0 l0_0.length c0_0) := (blk_cell BK770.out 0).trans rfl
   have hcz20_1 : w3.cell? ⟨gb770, 1, none⟩ = some (.int .i64 a0_1) := (blk_cell BK770.out 1).trans rfl
   have hcz20_2 : w3.cell? ⟨gb770, 2, none⟩ = some (.int .i64 a0_2) := (blk_cell BK770.out 2).trans rfl
   have hcz20_3 : w3.cell? ⟨gb770, 3, none⟩ = some (.int .i64 a0_3) := (blk_cell BK770.out 3).trans rfl
   have hcz20_4 : w3.cell? ⟨gb770, 4, none⟩ = some (.int .i64 a0_4) := (blk_cell BK770.out 4).trans rfl
   have hcz20_5 : w3.cell? ⟨gb770, 5, none⟩ = some (.int .i64 a0_5) := (blk_cell BK770.out 5).trans rfl
   have hcz20_6 : w3.cell? ⟨gb770, 6, none⟩ = some (.slice A0_6 l0_6.length c0_6) := (blk_cell BK770.out 6).trans rfl
   have hfz20_0 := blk_frozen BK770.out 0
   have hfz20_1 := blk_frozen BK770.out 1
   have hfz20_2 := blk_frozen BK770.out 2
   have hfz20_3 := blk_frozen BK770.out 3
   have hfz20_4 := blk_frozen BK770.out 4
   have hfz20_5 := blk_frozen BK770.out 5
   have hfz20_6 := blk_frozen BK770.out 6
   go_wp2_with (first | ((with_reducible refine gate_dst (N := 7) rfl ?_); (try (refine gate_guard (by rfl) ?_; dsimp only)); refine Kd.R_lit k32 _ 32 ?hg (N := 7) ?hd (xs := ([(⟨a0_1, a0_2, a0_3, a0_4⟩ : S32)] : List (S32))) (inner := [.int .i64 a0_1, .int .i64 a0_2, .int .i64 a0_3, .int .i64 a0_4]) (ok := fun _ => True) (okp := fun _ => True) ?hr ?hp (fun _ hk => hk) trivial (Below.refl _ _) (Nat.le_refl _) (by simp) ?_; (case hd => rfl); (case hg => rfl); (case hr => exact gs_); (case hp => exact (Reps.c4 (show Kd.M k32 _ _ _ (⟨a0_1, a0_2, a0_3, a0_4⟩ : S32) [.int .i64 a0_1, .int .i64 a0_2, .int .i64 a0_3, .int .i64 a0_4] from (k32_mkM _ _ _ (⟨a0_1, a0_2, a0_3, a0_4⟩ : S32) )) (Reps.none _ _))); intro v772 w21 ho22 hb hg_ hnew_; clear hg_ hnew_; (first | rw [← Ny771.out] at ho22 | (simp only [Int.reduceToNat] at ho22; rw [← Ny771.out] at ho22)); have HO773 := Aside0.mk (rL_ ho22 HB); replace BK770 := bB_ BK770 hb; replace HB := Aside0.mk (below_step (by repeat (first | (with_reducible first | exact HB.out | apply ba_ | apply bn_ | apply bd_ | refine bset_ ?_ (by assumption)) | exact HB.out)) hb); clear hb ho22; obtain ⟨Ao23, co23, eo23⟩ := Kd.R_slice HO773.out; subst eo23) | ((with_reducible refine gate_callee (f := 146) rfl ?_); refine goesL_ (some 8) rfl rfl Try.func146 (by kernel_rfl) rfl #[.agg #[.slice A0_0 l0_0.length c0_0], .slice Ao23 y771.length co23] rfl ar_ ?_; (with_reducible refine (impl_areOn.calls k _ _ l0_0 _ _ y771 false _ ?side1 ?side2 ?side3 ?side4 A4.out).mono ?_); (case side1 => repeat (first | exact (Kd.C_below HR0_0.out HB.out) | (with_reducible refine Kd.C_alloc ?_ _) | (with_reducible refine Kd.C_drewN ?_ _) | (with_reducible refine Kd.C_drew ?_))); (case side2 => exact HC0_0.out); (case side3 => repeat (first | exact (Kd.R_reads' HO773.out).2.2 | (with_reducible refine Kd.C_alloc ?_ _) | (with_reducible refine Kd.C_drewN ?_ _) | (with_reducible refine Kd.C_drew ?_))); (case side4 => exact (Kd.R_reads' HO773.out).2.1); rintro e w24 ⟨rfl, hb⟩; refine ⟨_, rfl, ?_⟩; replace HO773 := Aside0.mk (Kd.R_below (rK_ HO773) hb); replace BK770 := bB_ BK770 hb; replace HB := Aside0.mk (below_step (by repeat (first | (with_reducible first | exact HB.out | apply ba_ | apply bn_ | apply bd_ | refine bset_ ?_ (by assumption)) | exact HB.out)) hb); (try clear hb); (try clear hb2); (try clear hk); (try clear hi)))
   go_meet
   case rel => exact ⟨_, (true), (by first | rfl | (simp; done) | (simp [*]; done)), H', ⟨by first | omega | exact Nat.le_refl _⟩, ⟨by (with_reducible repeat first | apply kb1_ | apply kb2_ | apply kb3_); exact BK770.out⟩, ⟨by repeat (first | (with_reducible first | exact HB.out | apply below_alloc | apply pw_below_drewN | apply below_drew1 | refine below_set ?_ GE770.out) | exact HB.out)⟩⟩
 case rest =>
  clear HC2
  try clear c1
  try clear p2
  try clear c4
  try clear c5
  try clear c7
  try clear c14
  try clear c15
  try clear hcz13_0
  try clear hcz13_1
  try clear hcz13_2
  try clear hcz13_3
  try clear hcz13_4
  try clear hcz13_5
  try clear hcz13_6
  try clear hcz14_0
  try clear hcz14_1
  try clear hcz14_2
  try clear hcz14_3
  try clear hcz14_4
  try clear hcz14_5
  try clear hcz14_6
  try clear hcz19_0
  try clear hcz19_1
  try clear hcz19_2
  try clear hcz19_3
  try clear hcz19_4
  try clear hcz19_5
  try clear hcz19_6
  try clear hcz20_0
  try clear hcz20_1
  try clear hcz20_2
  try clear hcz20_3
  try clear hcz20_4
  try clear hcz20_5
  try clear hcz20_6
  try clear hcz8_0
  try clear hcz8_1
  try clear hcz8_2
  try clear hcz8_3
  try clear hcz8_4
  try clear hcz8_5
  try clear hcz8_6
  try clear hfz13_0
  try clear hfz13_1
  try clear hfz13_2
  try clear hfz13_3
  try clear hfz13_4
  try clear hfz13_5
  try clear hfz13_6
  try clear hfz14_0
  try clear hfz14_1
  try clear hfz14_2
  try clear hfz14_3
  try clear hfz14_4
  try clear hfz14_5
  try clear hfz14_6
  try clear hfz19_0
  try clear hfz19_1
  try clear hfz19_2
  try clear hfz19_3
  try clear hfz19_4
  try clear hfz19_5
  try clear hfz19_6
  try clear hfz20_0
  try clear hfz20_1
  try clear hfz20_2
  try clear hfz20_3
  try clear hfz20_4
  try clear hfz20_5
  try clear hfz20_6
  try clear hfz8_0
  try clear hfz8_1
  try clear hfz8_2
  try clear hfz8_3
  try clear hfz8_4
  try clear hfz8_5
  try clear hfz8_6
  obtain ⟨kq, x24_1, rfl, HA, HJ1, BK770, HB⟩ := hcut
  cases kq with
  | zero => exact absurd HA.out (by simp [impl_IsArena.j0])
  | succ kj1 =>
   have H := HA.out
   clear HA
   simp only [impl_IsArena.j0] at H
   by_cases c25 : x24_1 = true
   ·subst c25
    rw [if_pos rfl] at H
    obtain rfl := Option.some.inj H
    go_wp2
    go_ret
    exact ⟨er_, by repeat (first | (with_reducible first | exact HB.out | apply below_alloc | apply pw_below_drewN | apply below_drew1 | refine below_set ?_ GE770.out) | exact HB.out)⟩
   ·replace c25 := Bool.eq_false_iff.mpr c25
    subst c25
    rw [if_neg (show ¬ (false = true) by decide)] at H
    replace H := Option.bind_eq_some_iff.mp H
    obtain ⟨t776, A260, H⟩ := H
    replace H : (if t776 = true then ((slices_IsSorted_int_int.f kj1 l0_6).bind fun t777 => (some t777)) else (some false)) = some r := H
    have A26 := Aside0.mk A260
    clear A260
    by_cases c27 : t776 = true
    ·subst c27
     rw [if_pos rfl] at H
     replace H := Option.bind_eq_some_iff.mp H
     obtain ⟨t777, A280, H⟩ := H
     replace H : (some t777) = some r := H
     have A28 := Aside0.mk A280
     clear A280
     obtain rfl := Option.some.inj H
     have hcz29_0 : wc.cell? ⟨gb770, 0, none⟩ = some (.slice A0_0 l0_0.length c0_0) := (blk_cell BK770.out 0).trans rfl
     have hcz29_1 : wc.cell? ⟨gb770, 1, none⟩ = some (.int .i64 a0_1) := (blk_cell BK770.out 1).trans rfl
     have hcz29_2 : wc.cell? ⟨gb770, 2, none⟩ = some (.int .i64 a0_2) := (blk_cell BK770.out 2).trans rfl
     have hcz29_3 : wc.cell? ⟨gb770, 3, none⟩ = some (.int .i64 a0_3) := (blk_cell BK770.out 3).trans rfl
     have hcz29_4 : wc.cell? ⟨gb770, 4, none⟩ = some (.int .i64 a0_4) := (blk_cell BK770.out 4).trans rfl
     have hcz29_5 : wc.cell? ⟨gb770, 5, none⟩ = some (.int .i64 a0_5) := (blk_cell BK770.out 5).trans rfl
     have hcz29_6 : wc.cell? ⟨gb770, 6, none⟩ = some (.slice A0_6 l0_6.length c0_6) := (blk_cell BK770.out 6).trans rfl
     have hfz29_0 := blk_frozen BK770.out 0
     have hfz29_1 := blk_frozen BK770.out 1
     have hfz29_2 := blk_frozen BK770.out 2
     have hfz29_3 := blk_frozen BK770.out 3
     have hfz29_4 := blk_frozen BK770.out 4
     have hfz29_5 := blk_frozen BK770.out 5
     have hfz29_6 := blk_frozen BK770.out 6
     go_wp2_with (first | ((with_reducible refine gate_callee (f := 190) rfl ?_); refine goesL_ (some 29) rfl rfl Try.func190 (by kernel_rfl) rfl #[.slice A0_6 l0_6.length c0_6, .int .i64 0, .int .i64 a0_5] rfl ar_ ?_; (with_reducible refine (impl_allWithin.calls kj1 _ _ l0_6 0 a0_5 true _ ?side1 ?side2 A26.out).mono ?_); (case side1 => repeat (first | exact (Kd.C_below HR0_6.out HB.out) | (with_reducible refine Kd.C_alloc ?_ _) | (with_reducible refine Kd.C_drewN ?_ _) | (with_reducible refine Kd.C_drew ?_))); (case side2 => exact HC0_6.out); rintro e w' ⟨rfl, ⟨nd, rfl⟩⟩; refine ⟨_, rfl, ?_⟩) | (go_at_call 191; (with_reducible refine (slices_IsSorted_int_int.calls kj1 _ _ l0_6 t777 _ ?side1 ?side2 A28.out).mono ?_); (case side1 => repeat (first | exact (Kd.C_below HR0_6.out (by repeat (first | (with_reducible first | exact HB.out | apply ba_ | apply bn_ | apply bd_ | refine bset_ ?_ (by assumption)) | exact HB.out))) | (with_reducible refine Kd.C_alloc ?_ _) | (with_reducible refine Kd.C_drewN ?_ _) | (with_reducible refine Kd.C_drew ?_))); (case side2 => exact HC0_6.out); rintro e w' ⟨rfl, ⟨nd, rfl⟩⟩))
     go_ret
     exact ⟨er_, by repeat (first | (with_reducible first | exact HB.out | apply below_alloc | apply pw_below_drewN | apply below_drew1 | refine below_set ?_ GE770.out) | exact HB.out)⟩
    ·replace c27 := Bool.eq_false_iff.mpr c27
     subst c27
     rw [if_neg (show ¬ (false = true) by decide)] at H
     obtain rfl := Option.some.inj H
     have hcz30_0 : wc.cell? ⟨gb770, 0, none⟩ = some (.slice A0_0 l0_0.length c0_0) := (blk_cell BK770.out 0).trans rfl
     have hcz30_1 : wc.cell? ⟨gb770, 1, none⟩ = some (.int .i64 a0_1) := (blk_cell BK770.out 1).trans rfl
     have hcz30_2 : wc.cell? ⟨gb770, 2, none⟩ = some (.int .i64 a0_2) := (blk_cell BK770.out 2).trans rfl
     have hcz30_3 : wc.cell? ⟨gb770, 3, none⟩ = some (.int .i64 a0_3) := (blk_cell BK770.out 3).trans rfl
     have hcz30_4 : wc.cell? ⟨gb770, 4, none⟩ = some (.int .i64 a0_4) := (blk_cell BK770.out 4).trans rfl
     have hcz30_5 : wc.cell? ⟨gb770, 5, none⟩ = some (.int .i64 a0_5) := (blk_cell BK770.out 5).trans rfl
     have hcz30_6 : wc.cell? ⟨gb770, 6, none⟩ = some (.slice A0_6 l0_6.length c0_6) := (blk_cell BK770.out 6).trans rfl
     have hfz30_0 := blk_frozen BK770.out 0
     have hfz30_1 := blk_frozen BK770.out 1
     have hfz30_2 := blk_frozen BK770.out 2
     have hfz30_3 := blk_frozen BK770.out 3
     have hfz30_4 := blk_frozen BK770.out 4
     have hfz30_5 := blk_frozen BK770.out 5
     have hfz30_6 := blk_frozen BK770.out 6
     go_wp2_with (first | ((with_reducible refine gate_callee (f := 190) rfl ?_); refine goesL_ (some 29) rfl rfl Try.func190 (by kernel_rfl) rfl #[.slice A0_6 l0_6.length c0_6, .int .i64 0, .int .i64 a0_5] rfl ar_ ?_; (with_reducible refine (impl_allWithin.calls kj1 _ _ l0_6 0 a0_5 false _ ?side1 ?side2 A26.out).mono ?_); (case side1 => repeat (first | exact (Kd.C_below HR0_6.out HB.out) | (with_reducible refine Kd.C_alloc ?_ _) | (with_reducible refine Kd.C_drewN ?_ _) | (with_reducible refine Kd.C_drew ?_))); (case side2 => exact HC0_6.out); rintro e w' ⟨rfl, ⟨nd, rfl⟩⟩; refine ⟨_, rfl, ?_⟩))
     go_ret
     exact ⟨er_, by repeat (first | (with_reducible first | exact HB.out | apply below_alloc | apply pw_below_drewN | apply below_drew1 | refine below_set ?_ GE770.out) | exact HB.out)⟩
end Go.Proofs.Ytmkcbbbknbahgaa.P
namespace Go.Proofs.Ytmkcbbbknbahgaa.P
open Go.RowKit Go.Proofs.YtmkcbbbknbahgaaW.PrintWords Go.Proofs.YtmkcbbbknbahgaaW.PrintLast Go.Proofs.YtmkcbbbknbahgaaW.PrintMore
set_option linter.unusedVariables false
set_option linter.unusedSimpArgs false

def askedOk (x : S74) : Bool := decide (0 ≤ x.f0) && (decide (1 ≤ x.f1) && decide (x.f1 ≤ 16))

set_option maxHeartbeats 4000000 in
set_option maxRecDepth 100000 in
theorem impl_isAsked.calls (x : S74) (w : World) :
    Calls Try.prog 155 #[.agg #[.int .i64 x.f0, .int .i64 x.f1]] w fun e w' => e = .returned (.bool (askedOk x)) ∧ Below w.heap.size w w' := by
  have hu2 := Try.underlying74
  have HA := Below.alloc (Below.refl w.heap.size w) (Nat.le_refl _) (.cells #[.int .i64 x.f0, .int .i64 x.f1] 74)
  by_cases h : 0 ≤ x.f0
  · have hd : decide (0 ≤ x.f0) = true := decide_eq_true h
    have hd2 : decide (x.f0 ≥ 0) = true := decide_eq_true h
    have ht := eq_true h
    go_enter Try.func155, Try.ntmps155
    go_wp2_with fail
    refine (impl_within.calls x.f1 1 16 (decide (1 ≤ x.f1) && decide (x.f1 ≤ 16)) _ (impl_within.eq _ _ _)).mono ?_
    rintro e w' ⟨rfl, hb⟩
    have HB := Aside0.mk (below_step HA (by first | exact hb | exact Drawn0.below hb))
    clear hb
    go_wp2
    go_ret
    exact ⟨by unfold askedOk; rw [hd]; rfl, HB.out⟩
  · have hd : decide (0 ≤ x.f0) = false := decide_eq_false h
    have hd2 : decide (x.f0 ≥ 0) = false := decide_eq_false h
    go_enter Try.func155, Try.ntmps155
    go_wp2
    go_ret
    exact ⟨by unfold askedOk; rw [hd]; rfl, HA⟩

set_option maxHeartbeats 4000000 in
set_option maxRecDepth 100000 in
theorem areAsked1_calls (x : S74) (w : World) :
    Calls Try.prog 154 #[.agg #[.int .i64 x.f0, .int .i64 x.f1]] w fun e w' => e = .returned (.bool (!askedOk x)) ∧ Below w.heap.size w w' := by
  have hu2 := Try.underlying74
  go_enter Try.func154, Try.ntmps154
  go_wp2_with fail
  refine (impl_isAsked.calls x _).mono ?_
  rintro e w' ⟨rfl, hb'⟩
  have HB := Aside0.mk hb'
  clear hb'
  go_wp2
  go_ret
  exact ⟨rfl, ((Below.refl _ _).alloc (Nat.le_refl _) _).trans (HB.out.mono (by simp))⟩

set_option maxHeartbeats 4000000 in
set_option maxRecDepth 100000 in
/-- slices.IndexFunc at what is asked: whatever predicate that may lay blocks of its own. -/
theorem indexFuncA_calls (p : S74 → Bool) (fn : Nat) (lb : Array Value) (A0 : Option Addr) (c0 : Nat) (l0 : List S74) (w : World) (hr : Kd.C k74 w A0 l0.length l0)
    (hp : ∀ (x : S74) (W : World), Below w.heap.size w W → Calls Try.prog fn (#[.agg #[.int .i64 x.f0, .int .i64 x.f1]] ++ lb) W fun e w' => e = .returned (.bool (p x)) ∧ Below W.heap.size W w')
    (eg : ∀ args w, (callFunc fn args).run Try.prog w = .ok (.enter fn args) w) :
    Calls Try.prog 192 #[.slice A0 l0.length c0, .func (.func fn) #[] lb] w fun e w' => e = .returned (.int .i64 (idxP p l0 0)) ∧ Below w.heap.size w w' := by
  have hu2 := Try.underlying74
  have HR := Aside0.mk hr
  have hbig := hr.2.1
  clear hr
  go_enter Try.func192, Try.ntmps192
  go_wp2
  go_loopg [5, 8] l0.length (fun gg _ s8 wr => ∃ i : Int, s8 = .int .i64 i ∧ Aside0 (0 ≤ i) ∧ Aside0 (i ≤ l0.length) ∧ Aside0 ((l0.length : Int) - i ≤ gg) ∧ Aside0 (idxP p l0 0 = idxP p (l0.drop i.toNat) i) ∧ Aside0 (Below w.heap.size w wr))
  case atStart => exact ⟨0, rfl, ⟨by omega⟩, ⟨by omega⟩, ⟨by omega⟩, ⟨rfl⟩, ⟨Below.refl _ w⟩⟩
  case round =>
    obtain ⟨i, rfl, H0, H1, HG, HI, HB⟩ := hrel
    by_cases hlt : i < (l0.length : Int)
    · have hd : decide (i < (l0.length : Int)) = true := decide_eq_true hlt
      obtain ⟨ad, e, hx0, hx1⟩ := at_T74 HR.out i H0.out hlt
      cases e
      replace hx0 := (HB.out.cell (World.block_lt_of_cell? w _ hx0)).trans hx0
      replace hx1 := (HB.out.cell (World.block_lt_of_cell? w _ hx1)).trans hx1
      have hcall := hp (rd_T74 l0 i) wr HB.out
      have hstep : idxP p (l0.drop i.toNat) i = if p (rd_T74 l0 i) = true then i else idxP p (l0.drop (i + 1).toNat) (i + 1) := by
        have h0 := H0.out
        have hl : i.toNat < l0.length := by omega
        rw [List.drop_eq_getElem_cons hl, show (i + 1).toNat = i.toNat + 1 by omega]
        show (if p l0[i.toNat] = true then _ else _) = _
        have : rd_T74 l0 i = l0[i.toNat] := by unfold rd_T74; rw [List.getD_eq_getElem?_getD, List.getElem?_eq_getElem hl]; rfl
        rw [this]
      have HS := Aside0.mk hstep
      have q0 : 0 ≤ i := H0.out
      have hw : wrap64 (i + 1) = i + 1 := by unfold wrap64; omega
      have HW := Aside0.mk hw
      have hlti : (i < (l0.length : Int)) = True := eq_true hlt
      have q0' : (0 ≤ i) = True := eq_true q0
      clear hp hstep hw
      cases hq : p (rd_T74 l0 i) with
      | true =>
        rw [hq] at hcall
        have HQ := Aside0.mk hq
        clear hq
        go_wp2_with fail
        refine hcall.mono ?_
        rintro e w' ⟨rfl, hb'⟩
        clear hcall hx0 hx1
        have HB' := Aside0.mk hb'
        clear hb'
        go_wp2
        go_ret
        exact ⟨by rw [HI.out, HS.out, if_pos HQ.out]; rfl, below_step HB.out HB'.out⟩
      | false =>
        rw [hq] at hcall
        have HQ := Aside0.mk hq
        clear hq
        go_wp2_with fail
        refine hcall.mono ?_
        rintro e w' ⟨rfl, hb'⟩
        clear hcall hx0 hx1
        have HB' := Aside0.mk hb'
        clear hb'
        go_wp2
        go_roundg (l0.length - (i + 1).toNat)
        case measure => have := HG.out; omega
        case rel => exact ⟨i + 1, by first | rfl | (rw [HW.out]; rfl), ⟨by omega⟩, ⟨by omega⟩, ⟨by omega⟩, ⟨by rw [HI.out, HS.out, if_neg (by rw [HQ.out]; decide)]⟩, ⟨below_step HB.out HB'.out⟩⟩
    · have hd : decide (i < (l0.length : Int)) = false := decide_eq_false hlt
      go_wp2
      go_ret
      have h0 := H0.out
      have h1 := H1.out
      have : l0.drop i.toNat = [] := List.drop_eq_nil_of_le (by omega)
      exact ⟨by rw [HI.out, this]; rfl, HB.out⟩

set_option maxHeartbeats 4000000 in
set_option maxRecDepth 100000 in
theorem containsFuncA_calls (p : S74 → Bool) (fn : Nat) (lb : Array Value) (A0 : Option Addr) (c0 : Nat) (l0 : List S74) (w : World) (hr : Kd.C k74 w A0 l0.length l0)
    (hp : ∀ (x : S74) (W : World), Below w.heap.size w W → Calls Try.prog fn (#[.agg #[.int .i64 x.f0, .int .i64 x.f1]] ++ lb) W fun e w' => e = .returned (.bool (p x)) ∧ Below W.heap.size W w')
    (eg : ∀ args w, (callFunc fn args).run Try.prog w = .ok (.enter fn args) w) :
    Calls Try.prog 153 #[.slice A0 l0.length c0, .func (.func fn) #[] lb] w fun e w' => e = .returned (.bool (l0.any p)) ∧ Below w.heap.size w w' := by
  have HI := indexFuncA_calls p fn lb A0 c0 l0 w hr hp eg
  have HA := Aside0.mk (idxP_any p l0 0 (by omega))
  clear hp hr eg
  go_enter Try.func153, Try.ntmps153
  go_wp2_with fail
  refine HI.mono ?_
  rintro e w' ⟨rfl, hb'⟩
  clear HI
  have HB' := Aside0.mk hb'
  clear hb'
  go_wp2
  go_ret
  exact ⟨by rw [← HA.out]; rfl, HB'.out⟩

/-- Is the arena valid, and all that is asked for? -/
def impl_areAsked.f (k : Nat) (l0_0 : List (List Int)) (a0_1 : Int) (a0_2 : Int) (a0_3 : Int) (a0_4 : Int) (a0_5 : Int) (l0_6 : List Int) (l1 : List S74) : Option Bool := (impl_IsArena.f k l0_0 a0_1 a0_2 a0_3 a0_4 a0_5 l0_6).bind fun b => some (b && decide ((l1.length : Int) ≤ 6) && l1.all askedOk)

set_option maxHeartbeats 4000000 in
set_option maxRecDepth 100000 in
theorem impl_areAsked.calls (k : Nat) (A0_0 : Option Addr) (c0_0 : Nat) (l0_0 : List (List Int)) (a0_1 : Int) (a0_2 : Int) (a0_3 : Int) (a0_4 : Int) (a0_5 : Int) (A0_6 : Option Addr) (c0_6 : Nat) (l0_6 : List Int) (A1 : Option Addr) (c1 : Nat) (l1 : List S74) (r : Bool) (w : World) (hr0_0 : Kd.C (Kd.slice 5 (Kd.int .u8)) w A0_0 l0_0.length l0_0) (hc0_0 : l0_0.length ≤ c0_0) (hr0_6 : Kd.C (Kd.int .i64) w A0_6 l0_6.length l0_6) (hc0_6 : l0_6.length ≤ c0_6)
    (hr1 : Kd.C k74 w A1 l1.length l1) (hc1 : l1.length ≤ c1) (h : impl_areAsked.f k l0_0 a0_1 a0_2 a0_3 a0_4 a0_5 l0_6 l1 = some r) :
    Calls Try.prog 109 #[.agg #[.slice A0_0 l0_0.length c0_0, .int .i64 a0_1, .int .i64 a0_2, .int .i64 a0_3, .int .i64 a0_4, .int .i64 a0_5, .slice A0_6 l0_6.length c0_6], .slice A1 l1.length c1] w fun e w' => e = .returned (.bool r) ∧ Below w.heap.size w w' := by
  have hu1 := Try.underlying70
  unfold impl_areAsked.f at h
  obtain ⟨b, hb, hr⟩ := Option.bind_eq_some_iff.mp h
  have hr := Option.some.inj hr
  clear h
  have HM := Aside0.mk hb
  have HR0 := Aside0.mk hr0_0
  have HC0 := Aside0.mk hc0_0
  have HR6 := Aside0.mk hr0_6
  have HC6 := Aside0.mk hc0_6
  have HR1 := Aside0.mk hr1
  have HA := Below.alloc (Below.refl w.heap.size w) (Nat.le_refl _) (.cells #[.slice A0_0 l0_0.length c0_0, .int .i64 a0_1, .int .i64 a0_2, .int .i64 a0_3, .int .i64 a0_4, .int .i64 a0_5, .slice A0_6 l0_6.length c0_6] 70)
  have HB := Aside0.mk HA
  clear hb hr0_0 hc0_0 hr1 hr0_6 hc0_6 HA
  go_enter Try.func109, Try.ntmps109
  go_wp2_with fail
  refine (impl_IsArena.calls k A0_0 c0_0 l0_0 a0_1 a0_2 a0_3 a0_4 a0_5 A0_6 c0_6 l0_6 b _ (Kd.C_below HR0.out HB.out) HC0.out (Kd.C_below HR6.out HB.out) HC6.out HM.out).mono ?_
  rintro e w2 ⟨rfl, hb2⟩
  have HB2 := Aside0.mk (below_step HB.out hb2)
  clear hb2
  cases b with
  | false =>
    have hr' : r = false := by rw [← hr]; rfl
    subst hr'
    clear hr
    go_wp2
    go_ret
    exact ⟨rfl, HB2.out⟩
  | true =>
    by_cases h6 : (l1.length : Int) ≤ 6
    · have hr' : r = !(l1.any fun x => !askedOk x) := by rw [← hr, all_of_any]; simp [h6]
      subst hr'
      clear hr
      have h6b : decide ((l1.length : Int) ≤ 6) = true := decide_eq_true h6
      go_wp2_with fail
      refine (containsFuncA_calls (fun x => !askedOk x) 154 #[] A1 c1 l1 w2 (Kd.C_below HR1.out HB2.out) (fun x W hW => areAsked1_calls x W) (Go.Proofs.enters_of Try.func154 (by kernel_rfl) rfl)).mono ?_
      rintro e w5 ⟨rfl, hb5⟩
      have HB6 := Aside0.mk (below_step HB2.out hb5)
      clear hb5
      go_wp2
      go_ret
      exact ⟨rfl, HB6.out⟩
    · have hr' : r = false := by rw [← hr]; simp [h6]
      subst hr'
      clear hr
      have h6b : decide ((l1.length : Int) ≤ 6) = false := decide_eq_false h6
      go_wp2
      go_ret
      exact ⟨rfl, HB2.out⟩
end Go.Proofs.Ytmkcbbbknbahgaa.P
namespace Go.Proofs.Ytmkcbbbknbahgaa.P
open Go.RowKit Go.Proofs.YtmkcbbbknbahgaaW.PrintWords Go.Proofs.YtmkcbbbknbahgaaW.PrintLast Go.Proofs.YtmkcbbbknbahgaaW.PrintMore
attribute [local go_sem] max2_int min2_int max_two min_two max_three min_three max_four min_four   -- for this text's walks alone
set_option linter.unusedVariables false
set_option linter.unusedSimpArgs false

def impl_Window_part.f (a0_0 : Int) (a0_1 : Int) (a0_2 : Int) (a0_3 : Int) (a1 : Int) (a2 : Int) : Option (Int × Int × Int × Int) := some (a0_0, wrap64 (a0_1 + a1), a2, a2)

set_option maxHeartbeats 8000000 in
set_option maxRecDepth 100000 in
theorem impl_Window_part.calls (a0_0 : Int) (a0_1 : Int) (a0_2 : Int) (a0_3 : Int) (a1 : Int) (a2 : Int) (r1 : Int) (r2 : Int) (r3 : Int) (r4 : Int) (w : World) (h : impl_Window_part.f a0_0 a0_1 a0_2 a0_3 a1 a2 = some (r1, r2, r3, r4)) :
  Calls Try.prog 159 #[.agg #[.int .i64 a0_0, .int .i64 a0_1, .int .i64 a0_2, .int .i64 a0_3], .int .i64 a1, .int .i64 a2] w fun e w' => e = .returned (.agg #[.int .i64 r1, .int .i64 r2, .int .i64 r3, .int .i64 r4]) ∧ Below w.heap.size w w' := by
 have hu32 := Try.underlying32
 have HB := Aside0.mk (Below.refl w.heap.size w)
 have H : (some (a0_0, wrap64 (a0_1 + a1), a2, a2)) = some (r1, r2, r3, r4) := h
 clear h
 simp only [Option.some.injEq, Prod.mk.injEq] at H
 obtain ⟨rfl, rfl, rfl, rfl⟩ := H
 go_enter Try.func159, Try.ntmps159
 go_wp2_with (first | ((with_reducible refine gate_dst (N := 3) rfl ?_); refine box_event ?hg (N := 3) ?hd (cs := #[.int .i64 a0_0, .int .i64 a0_1, .int .i64 a0_2, .int .i64 a0_3]) (t := 32) ?hr ?_; (case hd => rfl); (case hg => rfl); (case hr => exact gs_); intro gb786 hg w4 hbox hb; have BK786 := Aside0.mk (hbox); have GW786 := gE_ HB hg; have GE786 := gE_ HB hg; replace HB := Aside0.mk (below_step (by repeat (first | (with_reducible first | exact HB.out | apply ba_ | apply bn_ | apply bd_) | exact HB.out)) hb); clear hb hbox hg) | ((with_reducible refine gate_dst (N := 6) rfl ?_); refine box_event ?hg (N := 6) ?hd (cs := #[.int .i64 0, .int .i64 0, .int .i64 0, .int .i64 0]) (t := 32) ?hr ?_; (case hd => rfl); (case hg => rfl); (case hr => exact gs_); intro gb787 hg w5 hbox hb; have BK787 := Aside0.mk (hbox); have GW787 := gE_ HB hg; have GE787 := gE_ HB hg; replace HB := Aside0.mk (below_step (by repeat (first | (with_reducible first | exact HB.out | apply ba_ | apply bn_ | apply bd_ | refine bset_ ?_ (by assumption)) | exact HB.out)) hb); have NB786_787 := nB_ BK786 hg; have NB787_786 := nA_ BK786 hg; replace BK786 := bB_ BK786 hb; clear hb hbox hg; have hnb6 := NB786_787.out; have hnc6 := NB787_786.out; have hcz7_0 : w5.cell? ⟨gb786, 0, none⟩ = some (.int .i64 a0_0) := (blk_cell BK786.out 0).trans rfl; have hcz7_1 : w5.cell? ⟨gb786, 1, none⟩ = some (.int .i64 a0_1) := (blk_cell BK786.out 1).trans rfl; have hcz7_2 : w5.cell? ⟨gb786, 2, none⟩ = some (.int .i64 a0_2) := (blk_cell BK786.out 2).trans rfl; have hcz7_3 : w5.cell? ⟨gb786, 3, none⟩ = some (.int .i64 a0_3) := (blk_cell BK786.out 3).trans rfl; have hfz7_0 := blk_frozen BK786.out 0; have hfz7_1 := blk_frozen BK786.out 1; have hfz7_2 := blk_frozen BK786.out 2; have hfz7_3 := blk_frozen BK786.out 3; have hcz8_0 : w5.cell? ⟨gb787, 0, none⟩ = some (.int .i64 0) := (blk_cell BK787.out 0).trans rfl; have hcz8_1 : w5.cell? ⟨gb787, 1, none⟩ = some (.int .i64 0) := (blk_cell BK787.out 1).trans rfl; have hcz8_2 : w5.cell? ⟨gb787, 2, none⟩ = some (.int .i64 0) := (blk_cell BK787.out 2).trans rfl; have hcz8_3 : w5.cell? ⟨gb787, 3, none⟩ = some (.int .i64 0) := (blk_cell BK787.out 3).trans rfl; have hfz8_0 := blk_frozen BK787.out 0; have hfz8_1 := blk_frozen BK787.out 1; have hfz8_2 := blk_frozen BK787.out 2; have hfz8_3 := blk_frozen BK787.out 3))
 refine bodyPost_ret (results_cell_row rfl _ _ gb787 32 #[.int .i64 a0_0, .int .i64 (wrap64 (a0_1 + a1)), .int .i64 a2, .int .i64 a2] (0, 0) _ rfl (by (with_reducible repeat first | apply kb1_ | apply kb2_ | apply kb3_); refine blk_put (cs := #[.int .i64 a0_0, .int .i64 (wrap64 (a0_1 + a1)), .int .i64 a2, .int .i64 0]) ?_ 3 _ rfl; (with_reducible repeat first | apply kb1_ | apply kb2_ | apply kb3_); refine blk_put (cs := #[.int .i64 a0_0, .int .i64 (wrap64 (a0_1 + a1)), .int .i64 0, .int .i64 0]) ?_ 2 _ rfl; (with_reducible repeat first | apply kb1_ | apply kb2_ | apply kb3_); refine blk_put (cs := #[.int .i64 a0_0, .int .i64 0, .int .i64 0, .int .i64 0]) ?_ 1 _ rfl; (with_reducible repeat first | apply kb1_ | apply kb2_ | apply kb3_); refine blk_put (cs := #[.int .i64 0, .int .i64 0, .int .i64 0, .int .i64 0]) ?_ 0 _ rfl; (with_reducible repeat first | apply kb1_ | apply kb2_ | apply kb3_); exact BK787.out) Try.underlying32 rfl (by kernel_rfl)) rfl ?_
 exact ⟨er_, by repeat (first | (with_reducible first | exact HB.out | apply below_alloc | apply pw_below_drewN | apply below_drew1 | refine below_set ?_ GE786.out | refine below_set ?_ GE787.out) | exact HB.out)⟩
end Go.Proofs.Ytmkcbbbknbahgaa.P
namespace Go.Proofs.Ytmkcbbbknbahgaa.P
open Go.RowKit Go.Proofs.YtmkcbbbknbahgaaW.PrintWords Go.Proofs.YtmkcbbbknbahgaaW.PrintLast Go.Proofs.YtmkcbbbknbahgaaW.PrintMore
set_option linter.unusedVariables false
set_option linter.unusedSimpArgs false

/-- Where the next window with an align begins. -/
def beginF (u al : Int) : Int := wrap64 ((wrap64 (Int.tdiv (wrap64 ((wrap64 (u + al)) - 1)) al)) * al)

set_option maxHeartbeats 4000000 in
set_option maxRecDepth 100000 in
theorem begin_at (A0 : Option Addr) (n0 c0 : Nat) (a1 a2 a3 a4 a5 : Int) (A6 : Option Addr) (n6 c6 : Nat) (q1 : Int) (hq : q1 ≠ 0) (w : World) :
    Calls Try.prog 193 #[.agg #[(.slice A0 n0 c0), (.int .i64 a1), (.int .i64 a2), (.int .i64 a3), (.int .i64 a4), (.int .i64 a5), (.slice A6 n6 c6)], .int .i64 q1] w fun e w' => e = .returned (.int .i64 (beginF a5 q1)) ∧ Below w.heap.size w w' := by
  have hu1 := Try.underlying70
  have HA := Below.alloc (Below.refl w.heap.size w) (Nat.le_refl _) (.cells #[(.slice A0 n0 c0), (.int .i64 a1), (.int .i64 a2), (.int .i64 a3), (.int .i64 a4), (.int .i64 a5), (.slice A6 n6 c6)] 70)
  have hq0 := eq_false hq
  have hd : decide (q1 = 0) = false := decide_eq_false hq
  go_enter Try.func193, Try.ntmps193
  go_wp2
  go_ret
  exact ⟨rfl, HA⟩

set_option maxHeartbeats 8000000 in
set_option maxRecDepth 100000 in
theorem give_no (g : Nat) (A0 : Option Addr) (n0 c0 : Nat) (a1 a2 a3 a4 a5 : Int) (A6 : Option Addr) (n6 c6 : Nat) (q0 q1 : Int) (hq : q1 ≠ 0) (hno : q0 > wrap64 (a3 - beginF a5 q1)) (w : World) (hb : w.heap[g]? = some (.cells #[(.slice A0 n0 c0), (.int .i64 a1), (.int .i64 a2), (.int .i64 a3), (.int .i64 a4), (.int .i64 a5), (.slice A6 n6 c6)] 70 (0, 0))) :
    Calls Try.prog 157 #[.pointer (some ⟨g, 0, none⟩), .agg #[.int .i64 q0, .int .i64 q1]] w fun e w' => e = .returned (.tuple #[.agg #[.int .i64 0, .int .i64 0, .int .i64 0, .int .i64 0], .bool false]) ∧ Below w.heap.size w w' := by
  have hu1 := Try.underlying70
  have hu2 := Try.underlying74
  have hu3 := Try.underlying32
  have hgl := blk_lt hb
  have HA1 := Below.alloc (Below.refl w.heap.size w) (Nat.le_refl _) (.cells #[.int .i64 q0, .int .i64 q1] 74)
  have HA2 := Below.alloc (Below.refl (w.alloc (.cells #[.int .i64 q0, .int .i64 q1] 74)).heap.size (w.alloc (.cells #[.int .i64 q0, .int .i64 q1] 74))) (Nat.le_refl _) (.cells #[.int .i64 0, .int .i64 0, .int .i64 0, .int .i64 0] 32)
  have HB := Aside0.mk (below_step HA1 HA2)
  have BKg := Aside0.mk (blk_below hb HB.out)
  have BK3 := Aside0.mk (blk_below (heap_alloc_new w (.cells #[.int .i64 q0, .int .i64 q1] 74)) HA2)
  have BK4 := Aside0.mk (heap_alloc_new (w.alloc (.cells #[.int .i64 q0, .int .i64 q1] 74)) (.cells #[.int .i64 0, .int .i64 0, .int .i64 0, .int .i64 0] 32))
  have Z1 := Aside0.mk (show w.heap.size + 2 ≤ ((w.alloc (.cells #[.int .i64 q0, .int .i64 q1] 74)).alloc (.cells #[.int .i64 0, .int .i64 0, .int .i64 0, .int .i64 0] 32)).heap.size by simp)
  have HG := Aside0.mk hgl
  rw [show (w.alloc (.cells #[.int .i64 q0, .int .i64 q1] 74)).heap.size = w.heap.size + 1 by simp] at *
  clear HA1 HA2 hb
  go_enter Try.func157, Try.ntmps157
  go_wp2_with fail
  clear hgl
  refine start_ (n := 7) (S := fun w' => w'.cell? ⟨g, 0, none⟩ = some (.slice A0 n0 c0) ∧ w'.cell? ⟨g, 1, none⟩ = some (.int .i64 a1) ∧ w'.cell? ⟨g, 2, none⟩ = some (.int .i64 a2) ∧ w'.cell? ⟨g, 3, none⟩ = some (.int .i64 a3) ∧ w'.cell? ⟨g, 4, none⟩ = some (.int .i64 a4) ∧ w'.cell? ⟨g, 5, none⟩ = some (.int .i64 a5) ∧ w'.cell? ⟨g, 6, none⟩ = some (.slice A6 n6 c6) ∧ w'.cell? ⟨w.heap.size, 1, none⟩ = some (.int .i64 q1)) (ds := []) #[false, false, false, false, false, false, false] (by kernel_rfl) rfl rfl ⟨(blk_cell BKg.out 0).trans rfl, (blk_cell BKg.out 1).trans rfl, (blk_cell BKg.out 2).trans rfl, (blk_cell BKg.out 3).trans rfl, (blk_cell BKg.out 4).trans rfl, (blk_cell BKg.out 5).trans rfl, (blk_cell BKg.out 6).trans rfl, (blk_cell BK3.out 1).trans rfl⟩ (fun hHeld => ?_)
  replace BKg := Aside0.mk (blk_drew BKg.out)
  replace BK3 := Aside0.mk (blk_drew BK3.out)
  replace BK4 := Aside0.mk (blk_drew BK4.out)
  replace HB := Aside0.mk (below_drew1 HB.out)
  replace Z1 := Aside0.mk (show w.heap.size + 2 ≤ ((w.alloc (.cells #[.int .i64 q0, .int .i64 q1] 74)).alloc (.cells #[.int .i64 0, .int .i64 0, .int .i64 0, .int .i64 0] 32)).drew.heap.size from Z1.out)
  generalize ((w.alloc (.cells #[.int .i64 q0, .int .i64 q1] 74)).alloc (.cells #[.int .i64 0, .int .i64 0, .int .i64 0, .int .i64 0] 32)).drew = w4 at BKg BK3 BK4 HB Z1 hHeld ⊢
  refine pure_ (i := 0) (N := some 7) (v := ?_) (a' := ?_) #[true, false, false, false, false, false, false] rfl rfl (by kernel_rfl) (fun _ _ _ h => h) (Or.inl ⟨by rfl, ?_⟩) ?_ ?_
  rotate_left
  · intro w'
    go_simp
    with_reducible rfl
  rotate_left
  · simp only [Act.put, List.setIfInBounds_toArray, List.set_cons_zero, List.set_cons_succ, i64_w, i32_w]
    rfl
  refine pure_ (i := 1) (N := some 8) (v := ?_) (a' := ?_) #[true, true, false, false, false, false, false] rfl rfl (by kernel_rfl) (fun _ _ _ h => h) (Or.inl ⟨by rfl, ?_⟩) ?_ ?_
  rotate_left
  · intro w'
    go_simp
    with_reducible rfl
  rotate_left
  · simp only [Act.put, List.setIfInBounds_toArray, List.set_cons_zero, List.set_cons_succ, i64_w, i32_w]
    rfl
  refine take_ (i := 2) (N := some 9) (v := ?_) (a' := ?_) #[true, true, true, false, false, false, false] rfl rfl (by kernel_rfl) (fun _ _ _ h => h) (Or.inl ⟨by rfl, ?_⟩) hHeld ?_ ?_
  rotate_left
  · rintro w' ⟨s0, s1, s2, s3, s4, s5, s6, s7⟩
    go_simp
    with_reducible rfl
  rotate_left
  · simp only [Act.put, List.setIfInBounds_toArray, List.set_cons_zero, List.set_cons_succ, i64_w, i32_w]
    rfl
  refine pure_ (i := 3) (N := some 10) (v := ?_) (a' := ?_) #[true, true, true, true, false, false, false] rfl rfl (by kernel_rfl) (fun _ _ _ h => h) (Or.inl ⟨by rfl, ?_⟩) ?_ ?_
  rotate_left
  · intro w'
    go_simp
    with_reducible rfl
  rotate_left
  · simp only [Act.put, List.setIfInBounds_toArray, List.set_cons_zero, List.set_cons_succ, i64_w, i32_w]
    rfl
  refine take_ (i := 4) (N := some 11) (v := ?_) (a' := ?_) #[true, true, true, true, true, false, false] rfl rfl (by kernel_rfl) (fun _ _ _ h => h) (Or.inl ⟨by rfl, ?_⟩) hHeld ?_ ?_
  rotate_left
  · rintro w' ⟨s0, s1, s2, s3, s4, s5, s6, s7⟩
    go_simp
    with_reducible rfl
  rotate_left
  · simp only [Act.put, List.setIfInBounds_toArray, List.set_cons_zero, List.set_cons_succ, i64_w, i32_w]
    rfl
  refine one_ (i := 5) (N := some 12) #[true, true, true, true, true, true, false] rfl rfl (by kernel_rfl) (by decide) (fun K hK => ?_)
  refine goes_ Try.func193 (by kernel_rfl) rfl #[.agg #[(.slice A0 n0 c0), (.int .i64 a1), (.int .i64 a2), (.int .i64 a3), (.int .i64 a4), (.int .i64 a5), (.slice A6 n6 c6)], .int .i64 q1] (by rfl) rfl rfl (by (try simp only [List.map_toArray, List.map_cons, List.map_nil]); first | done | rfl) ?_
  refine (begin_at A0 n0 c0 a1 a2 a3 a4 a5 A6 n6 c6 q1 hq w4).mono ?_
  rintro e w5 ⟨rfl, hb⟩
  refine ⟨_, rfl, ?_⟩
  replace BKg := Aside0.mk (blk_below BKg.out hb)
  replace BK3 := Aside0.mk (blk_below BK3.out hb)
  replace BK4 := Aside0.mk (blk_below BK4.out hb)
  replace HB := Aside0.mk (below_step HB.out hb)
  have Z2 := Aside0.mk (below_size hb)
  clear hb
  refine hK.out _ _ ⟨(blk_cell BKg.out 0).trans rfl, (blk_cell BKg.out 1).trans rfl, (blk_cell BKg.out 2).trans rfl, (blk_cell BKg.out 3).trans rfl, (blk_cell BKg.out 4).trans rfl, (blk_cell BKg.out 5).trans rfl, (blk_cell BKg.out 6).trans rfl, (blk_cell BK3.out 1).trans rfl⟩ (fun hHeld => ?_)
  clear hK K
  refine norm_ (a' := ?_) ?_ ?_
  rotate_left
  · show Act.put _ (some 12) _ = _
    simp only [Act.put, List.setIfInBounds_toArray, List.set_cons_zero, List.set_cons_succ, i64_w, i32_w]
    rfl
  refine pure_ (i := 6) (N := some 6) (v := ?_) (a' := ?_) #[true, true, true, true, true, true, true] rfl rfl (by kernel_rfl) (fun _ _ _ h => h) (Or.inl ⟨by rfl, ?_⟩) ?_ ?_
  rotate_left
  · intro w'
    go_simp
    with_reducible rfl
  rotate_left
  · simp only [Act.put, List.setIfInBounds_toArray, List.set_cons_zero, List.set_cons_succ, i64_w, i32_w]
    rfl
  refine done_ (by kernel_rfl) ?_
  clear hHeld
  have hd : decide (q0 > wrap64 (a3 - beginF a5 q1)) = true := decide_eq_true hno
  have y0 : w5.cell? ⟨g, 3, none⟩ = some (.int .i64 a3) := (blk_cell BKg.out 3).trans rfl
  have y1 : w5.cell? ⟨w.heap.size, 0, none⟩ = some (.int .i64 q0) := (blk_cell BK3.out 0).trans rfl
  go_wp2_with fail
  go_quiet (fail)
  clear y0 y1
  have z0 : w5.cell? ⟨w.heap.size + 1, 0, none⟩ = some (.int .i64 0) := (blk_cell BK4.out 0).trans rfl
  have z1 : w5.cell? ⟨w.heap.size + 1, 1, none⟩ = some (.int .i64 0) := (blk_cell BK4.out 1).trans rfl
  have z2 : w5.cell? ⟨w.heap.size + 1, 2, none⟩ = some (.int .i64 0) := (blk_cell BK4.out 2).trans rfl
  have z3 : w5.cell? ⟨w.heap.size + 1, 3, none⟩ = some (.int .i64 0) := (blk_cell BK4.out 3).trans rfl
  have zf0 := blk_frozen BK4.out 0
  have zf1 := blk_frozen BK4.out 1
  have zf2 := blk_frozen BK4.out 2
  have zf3 := blk_frozen BK4.out 3
  have zl := blk_lt BK4.out
  go_wp2_with fail
  refine bodyPost_ret (results_ct rfl _ _ (w.heap.size + 1) 32 #[.int .i64 0, .int .i64 0, .int .i64 0, .int .i64 0] (0, 0) _ rfl (by (with_reducible repeat (first | refine blk_drewN ?_ _ | refine blk_drew ?_ | refine blk_alloc ?_ _)); refine blk_put (cs := #[(.int .i64 0), (.int .i64 0), (.int .i64 0), (.int .i64 0)]) ?_ 3 _ rfl; (with_reducible repeat (first | refine blk_drewN ?_ _ | refine blk_drew ?_ | refine blk_alloc ?_ _)); refine blk_put (cs := #[(.int .i64 0), (.int .i64 0), (.int .i64 0), (.int .i64 0)]) ?_ 2 _ rfl; (with_reducible repeat (first | refine blk_drewN ?_ _ | refine blk_drew ?_ | refine blk_alloc ?_ _)); refine blk_put (cs := #[(.int .i64 0), (.int .i64 0), (.int .i64 0), (.int .i64 0)]) ?_ 1 _ rfl; (with_reducible repeat (first | refine blk_drewN ?_ _ | refine blk_drew ?_ | refine blk_alloc ?_ _)); refine blk_put (cs := #[(.int .i64 0), (.int .i64 0), (.int .i64 0), (.int .i64 0)]) ?_ 0 _ rfl; (with_reducible repeat (first | refine blk_drewN ?_ _ | refine blk_drew ?_ | refine blk_alloc ?_ _)); exact BK4.out) Try.underlying32 rfl (by kernel_rfl)) rfl ?_
  exact ⟨rfl, by repeat (first | (with_reducible first | exact HB.out | refine below_set ?_ (Nat.le_succ _) | apply below_alloc | apply pw_below_drewN | apply below_drew1) | exact HB.out)⟩

theorem grown_below {w w' : World} (hb : Below w.heap.size w w') : w.grownBy w' none := ⟨hb.os, hb.tape, hb.output, below_size hb, fun k hk _ => hb.block k hk⟩

theorem grown_but {w w' : World} (h : w.grownBy w' none) (row : Option Nat) : w.grownBy w' row := ⟨h.os, h.tape, h.output, h.size, fun i hi _ => h.block i hi (by simp)⟩

set_option maxHeartbeats 8000000 in
set_option maxRecDepth 100000 in
theorem give_yes (g : Nat) (A0 : Option Addr) (n0 c0 : Nat) (a1 a2 a3 a4 a5 : Int) (A6 : Option Addr) (n6 c6 : Nat) (q0 q1 : Int) (hq : q1 ≠ 0) (hyes : ¬ q0 > wrap64 (a3 - beginF a5 q1)) (w : World) (hb : w.heap[g]? = some (.cells #[(.slice A0 n0 c0), (.int .i64 a1), (.int .i64 a2), (.int .i64 a3), (.int .i64 a4), (.int .i64 a5), (.slice A6 n6 c6)] 70 (0, 0))) :
    Calls Try.prog 157 #[.pointer (some ⟨g, 0, none⟩), .agg #[.int .i64 q0, .int .i64 q1]] w fun e w' => e = .returned (.tuple #[.agg #[.int .i64 a1, .int .i64 (wrap64 (a2 + beginF a5 q1)), .int .i64 q0, .int .i64 q0], .bool true]) ∧ w'.heap[g]? = some (.cells #[(.slice A0 n0 c0), (.int .i64 a1), (.int .i64 a2), (.int .i64 a3), (.int .i64 a4), (.int .i64 (wrap64 (beginF a5 q1 + q0))), (.slice A6 n6 c6)] 70 (0, 0)) ∧ w.grownBy w' (some g) := by
  have hu1 := Try.underlying70
  have hu2 := Try.underlying74
  have hu3 := Try.underlying32
  have hgl := blk_lt hb
  have HA1 := Below.alloc (Below.refl w.heap.size w) (Nat.le_refl _) (.cells #[.int .i64 q0, .int .i64 q1] 74)
  have HA2 := Below.alloc (Below.refl (w.alloc (.cells #[.int .i64 q0, .int .i64 q1] 74)).heap.size (w.alloc (.cells #[.int .i64 q0, .int .i64 q1] 74))) (Nat.le_refl _) (.cells #[.int .i64 0, .int .i64 0, .int .i64 0, .int .i64 0] 32)
  have HB := Aside0.mk (below_step HA1 HA2)
  have BKg := Aside0.mk (blk_below hb HB.out)
  have BK3 := Aside0.mk (blk_below (heap_alloc_new w (.cells #[.int .i64 q0, .int .i64 q1] 74)) HA2)
  have BK4 := Aside0.mk (heap_alloc_new (w.alloc (.cells #[.int .i64 q0, .int .i64 q1] 74)) (.cells #[.int .i64 0, .int .i64 0, .int .i64 0, .int .i64 0] 32))
  have Z1 := Aside0.mk (show w.heap.size + 2 ≤ ((w.alloc (.cells #[.int .i64 q0, .int .i64 q1] 74)).alloc (.cells #[.int .i64 0, .int .i64 0, .int .i64 0, .int .i64 0] 32)).heap.size by simp)
  have HG := Aside0.mk hgl
  rw [show (w.alloc (.cells #[.int .i64 q0, .int .i64 q1] 74)).heap.size = w.heap.size + 1 by simp] at *
  clear HA1 HA2 hb
  go_enter Try.func157, Try.ntmps157
  go_wp2_with fail
  clear hgl
  refine start_ (n := 7) (S := fun w' => w'.cell? ⟨g, 0, none⟩ = some (.slice A0 n0 c0) ∧ w'.cell? ⟨g, 1, none⟩ = some (.int .i64 a1) ∧ w'.cell? ⟨g, 2, none⟩ = some (.int .i64 a2) ∧ w'.cell? ⟨g, 3, none⟩ = some (.int .i64 a3) ∧ w'.cell? ⟨g, 4, none⟩ = some (.int .i64 a4) ∧ w'.cell? ⟨g, 5, none⟩ = some (.int .i64 a5) ∧ w'.cell? ⟨g, 6, none⟩ = some (.slice A6 n6 c6) ∧ w'.cell? ⟨w.heap.size, 1, none⟩ = some (.int .i64 q1)) (ds := []) #[false, false, false, false, false, false, false] (by kernel_rfl) rfl rfl ⟨(blk_cell BKg.out 0).trans rfl, (blk_cell BKg.out 1).trans rfl, (blk_cell BKg.out 2).trans rfl, (blk_cell BKg.out 3).trans rfl, (blk_cell BKg.out 4).trans rfl, (blk_cell BKg.out 5).trans rfl, (blk_cell BKg.out 6).trans rfl, (blk_cell BK3.out 1).trans rfl⟩ (fun hHeld => ?_)
  replace BKg := Aside0.mk (blk_drew BKg.out)
  replace BK3 := Aside0.mk (blk_drew BK3.out)
  replace BK4 := Aside0.mk (blk_drew BK4.out)
  replace HB := Aside0.mk (below_drew1 HB.out)
  replace Z1 := Aside0.mk (show w.heap.size + 2 ≤ ((w.alloc (.cells #[.int .i64 q0, .int .i64 q1] 74)).alloc (.cells #[.int .i64 0, .int .i64 0, .int .i64 0, .int .i64 0] 32)).drew.heap.size from Z1.out)
  generalize ((w.alloc (.cells #[.int .i64 q0, .int .i64 q1] 74)).alloc (.cells #[.int .i64 0, .int .i64 0, .int .i64 0, .int .i64 0] 32)).drew = w4 at BKg BK3 BK4 HB Z1 hHeld ⊢
  refine pure_ (i := 0) (N := some 7) (v := ?_) (a' := ?_) #[true, false, false, false, false, false, false] rfl rfl (by kernel_rfl) (fun _ _ _ h => h) (Or.inl ⟨by rfl, ?_⟩) ?_ ?_
  rotate_left
  · intro w'
    go_simp
    with_reducible rfl
  rotate_left
  · simp only [Act.put, List.setIfInBounds_toArray, List.set_cons_zero, List.set_cons_succ, i64_w, i32_w]
    rfl
  refine pure_ (i := 1) (N := some 8) (v := ?_) (a' := ?_) #[true, true, false, false, false, false, false] rfl rfl (by kernel_rfl) (fun _ _ _ h => h) (Or.inl ⟨by rfl, ?_⟩) ?_ ?_
  rotate_left
  · intro w'
    go_simp
    with_reducible rfl
  rotate_left
  · simp only [Act.put, List.setIfInBounds_toArray, List.set_cons_zero, List.set_cons_succ, i64_w, i32_w]
    rfl
  refine take_ (i := 2) (N := some 9) (v := ?_) (a' := ?_) #[true, true, true, false, false, false, false] rfl rfl (by kernel_rfl) (fun _ _ _ h => h) (Or.inl ⟨by rfl, ?_⟩) hHeld ?_ ?_
  rotate_left
  · rintro w' ⟨s0, s1, s2, s3, s4, s5, s6, s7⟩
    go_simp
    with_reducible rfl
  rotate_left
  · simp only [Act.put, List.setIfInBounds_toArray, List.set_cons_zero, List.set_cons_succ, i64_w, i32_w]
    rfl
  refine pure_ (i := 3) (N := some 10) (v := ?_) (a' := ?_) #[true, true, true, true, false, false, false] rfl rfl (by kernel_rfl) (fun _ _ _ h => h) (Or.inl ⟨by rfl, ?_⟩) ?_ ?_
  rotate_left
  · intro w'
    go_simp
    with_reducible rfl
  rotate_left
  · simp only [Act.put, List.setIfInBounds_toArray, List.set_cons_zero, List.set_cons_succ, i64_w, i32_w]
    rfl
  refine take_ (i := 4) (N := some 11) (v := ?_) (a' := ?_) #[true, true, true, true, true, false, false] rfl rfl (by kernel_rfl) (fun _ _ _ h => h) (Or.inl ⟨by rfl, ?_⟩) hHeld ?_ ?_
  rotate_left
  · rintro w' ⟨s0, s1, s2, s3, s4, s5, s6, s7⟩
    go_simp
    with_reducible rfl
  rotate_left
  · simp only [Act.put, List.setIfInBounds_toArray, List.set_cons_zero, List.set_cons_succ, i64_w, i32_w]
    rfl
  refine one_ (i := 5) (N := some 12) #[true, true, true, true, true, true, false] rfl rfl (by kernel_rfl) (by decide) (fun K hK => ?_)
  refine goes_ Try.func193 (by kernel_rfl) rfl #[.agg #[(.slice A0 n0 c0), (.int .i64 a1), (.int .i64 a2), (.int .i64 a3), (.int .i64 a4), (.int .i64 a5), (.slice A6 n6 c6)], .int .i64 q1] (by rfl) rfl rfl (by (try simp only [List.map_toArray, List.map_cons, List.map_nil]); first | done | rfl) ?_
  refine (begin_at A0 n0 c0 a1 a2 a3 a4 a5 A6 n6 c6 q1 hq w4).mono ?_
  rintro e w5 ⟨rfl, hb⟩
  refine ⟨_, rfl, ?_⟩
  replace BKg := Aside0.mk (blk_below BKg.out hb)
  replace BK3 := Aside0.mk (blk_below BK3.out hb)
  replace BK4 := Aside0.mk (blk_below BK4.out hb)
  replace HB := Aside0.mk (below_step HB.out hb)
  have Z2 := Aside0.mk (below_size hb)
  clear hb
  refine hK.out _ _ ⟨(blk_cell BKg.out 0).trans rfl, (blk_cell BKg.out 1).trans rfl, (blk_cell BKg.out 2).trans rfl, (blk_cell BKg.out 3).trans rfl, (blk_cell BKg.out 4).trans rfl, (blk_cell BKg.out 5).trans rfl, (blk_cell BKg.out 6).trans rfl, (blk_cell BK3.out 1).trans rfl⟩ (fun hHeld => ?_)
  clear hK K
  refine norm_ (a' := ?_) ?_ ?_
  rotate_left
  · show Act.put _ (some 12) _ = _
    simp only [Act.put, List.setIfInBounds_toArray, List.set_cons_zero, List.set_cons_succ, i64_w, i32_w]
    rfl
  refine pure_ (i := 6) (N := some 6) (v := ?_) (a' := ?_) #[true, true, true, true, true, true, true] rfl rfl (by kernel_rfl) (fun _ _ _ h => h) (Or.inl ⟨by rfl, ?_⟩) ?_ ?_
  rotate_left
  · intro w'
    go_simp
    with_reducible rfl
  rotate_left
  · simp only [Act.put, List.setIfInBounds_toArray, List.set_cons_zero, List.set_cons_succ, i64_w, i32_w]
    rfl
  refine done_ (by kernel_rfl) ?_
  clear hHeld
  have hd : decide (q0 > wrap64 (a3 - beginF a5 q1)) = false := decide_eq_false (by omega)
  have y0 : w5.cell? ⟨g, 3, none⟩ = some (.int .i64 a3) := (blk_cell BKg.out 3).trans rfl
  have y1 : w5.cell? ⟨w.heap.size, 0, none⟩ = some (.int .i64 q0) := (blk_cell BK3.out 0).trans rfl
  go_wp2_with fail
  go_quiet (fail)
  clear y0 y1
  have y5 : w5.cell? ⟨g, 5, none⟩ = some (.int .i64 a5) := (blk_cell BKg.out 5).trans rfl
  have yf := blk_frozen BKg.out 5
  have y1 : w5.cell? ⟨w.heap.size, 0, none⟩ = some (.int .i64 q0) := (blk_cell BK3.out 0).trans rfl
  have yl := blk_lt BKg.out
  have y3 := blk_lt BK3.out
  have yn1 : g ≠ w.heap.size := Nat.ne_of_lt HG.out
  have yn2 : w.heap.size ≠ g := Nat.ne_of_gt HG.out
  go_wp2_with fail
  replace BKg := Aside0.mk (blk_put (cs' := #[(.slice A0 n0 c0), (.int .i64 a1), (.int .i64 a2), (.int .i64 a3), (.int .i64 a4), (.int .i64 (wrap64 (beginF a5 q1 + q0))), (.slice A6 n6 c6)]) (blk_drewN BKg.out nq) 5 (.int .i64 (wrap64 (beginF a5 q1 + q0))) rfl)
  replace BK3 := Aside0.mk (blk_far (p := ⟨g, 5, none⟩) (blk_drewN BK3.out nq) yn2 (.int .i64 (wrap64 (beginF a5 q1 + q0))))
  replace BK4 := Aside0.mk (blk_far (p := ⟨g, 5, none⟩) (blk_drewN BK4.out nq) (Nat.ne_of_gt (Nat.lt_succ_of_lt HG.out)) (.int .i64 (wrap64 (beginF a5 q1 + q0))))
  have HGr := Aside0.mk (show w.grownBy ((w5.drewN nq).setCell ⟨g, 5, none⟩ (.int .i64 (wrap64 (beginF a5 q1 + q0)))) (some g) from
    (grown_but (grown_below (pw_below_drewN HB.out nq)) (some g)).trans ⟨rfl, rfl, rfl, by simp [World.setCell], fun k _ hne => Below.heap_setCell _ _ _ k (fun e => hne (by rw [e]))⟩)
  have Z5 := Aside0.mk (show w.heap.size + 2 ≤ ((w5.drewN nq).setCell ⟨g, 5, none⟩ (.int .i64 (wrap64 (beginF a5 q1 + q0)))).heap.size by have := Z1.out; have := Z2.out; simp [World.setCell]; omega)
  clear y5 yf y1 yl y3 Z1 Z2 HB
  generalize (w5.drewN nq).setCell ⟨g, 5, none⟩ (.int .i64 (wrap64 (beginF a5 q1 + q0))) = w6 at BKg BK3 BK4 HGr Z5 ⊢
  refine start_ (n := 10) (S := fun w' => w'.cell? ⟨g, 1, none⟩ = some (.int .i64 a1) ∧ w'.cell? ⟨g, 2, none⟩ = some (.int .i64 a2) ∧ w'.cell? ⟨g, 3, none⟩ = some (.int .i64 a3) ∧ w'.cell? ⟨g, 4, none⟩ = some (.int .i64 a4) ∧ w'.cell? ⟨w.heap.size, 0, none⟩ = some (.int .i64 q0)) (ds := [8]) #[false, false, false, false, false, false, false, false, false, false] (by kernel_rfl) rfl rfl ⟨(blk_cell BKg.out 1).trans rfl, (blk_cell BKg.out 2).trans rfl, (blk_cell BKg.out 3).trans rfl, (blk_cell BKg.out 4).trans rfl, (blk_cell BK3.out 0).trans rfl⟩ (fun hHeld => ?_)
  replace BKg := Aside0.mk (blk_drew BKg.out)
  replace BK3 := Aside0.mk (blk_drew BK3.out)
  replace BK4 := Aside0.mk (blk_drew BK4.out)
  replace HGr := Aside0.mk (show w.grownBy w6.drew (some g) from ⟨HGr.out.os, HGr.out.tape, HGr.out.output, HGr.out.size, HGr.out.block⟩)
  replace Z5 := Aside0.mk (show w.heap.size + 2 ≤ w6.drew.heap.size from Z5.out)
  generalize w6.drew = w7 at BKg BK3 BK4 HGr Z5 hHeld ⊢
  refine pure_ (i := 0) (N := some 31) (v := ?_) (a' := ?_) #[true, false, false, false, false, false, false, false, false, false] rfl rfl (by kernel_rfl) (fun _ _ _ h => h) (Or.inl ⟨by rfl, ?_⟩) ?_ ?_
  rotate_left
  · intro w'
    go_simp
    with_reducible rfl
  rotate_left
  · simp only [Act.put, List.setIfInBounds_toArray, List.set_cons_zero, List.set_cons_succ, i64_w, i32_w]
    rfl
  refine pure_ (i := 1) (N := some 32) (v := ?_) (a' := ?_) #[true, true, false, false, false, false, false, false, false, false] rfl rfl (by kernel_rfl) (fun _ _ _ h => h) (Or.inl ⟨by rfl, ?_⟩) ?_ ?_
  rotate_left
  · intro w'
    go_simp
    with_reducible rfl
  rotate_left
  · simp only [Act.put, List.setIfInBounds_toArray, List.set_cons_zero, List.set_cons_succ, i64_w, i32_w]
    rfl
  refine pure_ (i := 2) (N := some 33) (v := ?_) (a' := ?_) #[true, true, true, false, false, false, false, false, false, false] rfl rfl (by kernel_rfl) (fun _ _ _ h => h) (Or.inl ⟨by rfl, ?_⟩) ?_ ?_
  rotate_left
  · intro w'
    go_simp
    with_reducible rfl
  rotate_left
  · simp only [Act.put, List.setIfInBounds_toArray, List.set_cons_zero, List.set_cons_succ, i64_w, i32_w]
    rfl
  refine take_ (i := 3) (N := some 34) (v := ?_) (a' := ?_) #[true, true, true, true, false, false, false, false, false, false] rfl rfl (by kernel_rfl) (fun _ _ _ h => h) (Or.inl ⟨by rfl, ?_⟩) hHeld ?_ ?_
  rotate_left
  · rintro w' ⟨s0, s1, s2, s3, s4⟩
    go_simp
    with_reducible rfl
  rotate_left
  · simp only [Act.put, List.setIfInBounds_toArray, List.set_cons_zero, List.set_cons_succ, i64_w, i32_w]
    rfl
  refine pure_ (i := 4) (N := some 35) (v := ?_) (a' := ?_) #[true, true, true, true, true, false, false, false, false, false] rfl rfl (by kernel_rfl) (fun _ _ _ h => h) (Or.inl ⟨by rfl, ?_⟩) ?_ ?_
  rotate_left
  · intro w'
    go_simp
    with_reducible rfl
  rotate_left
  · simp only [Act.put, List.setIfInBounds_toArray, List.set_cons_zero, List.set_cons_succ, i64_w, i32_w]
    rfl
  refine pure_ (i := 5) (N := some 36) (v := ?_) (a' := ?_) #[true, true, true, true, true, true, false, false, false, false] rfl rfl (by kernel_rfl) (fun _ _ _ h => h) (Or.inl ⟨by rfl, ?_⟩) ?_ ?_
  rotate_left
  · intro w'
    go_simp
    with_reducible rfl
  rotate_left
  · simp only [Act.put, List.setIfInBounds_toArray, List.set_cons_zero, List.set_cons_succ, i64_w, i32_w]
    rfl
  refine take_ (i := 6) (N := some 37) (v := ?_) (a' := ?_) #[true, true, true, true, true, true, true, false, false, false] rfl rfl (by kernel_rfl) (fun _ _ _ h => h) (Or.inl ⟨by rfl, ?_⟩) hHeld ?_ ?_
  rotate_left
  · rintro w' ⟨s0, s1, s2, s3, s4⟩
    go_simp
    with_reducible rfl
  rotate_left
  · simp only [Act.put, List.setIfInBounds_toArray, List.set_cons_zero, List.set_cons_succ, i64_w, i32_w]
    rfl
  refine one_ (i := 7) (N := some 38) #[true, true, true, true, true, true, true, true, false, false] rfl rfl (by kernel_rfl) (by decide) (fun K hK => ?_)
  refine goes_ Try.func159 (by kernel_rfl) rfl #[.agg #[.int .i64 a1, .int .i64 a2, .int .i64 a3, .int .i64 a4], .int .i64 (beginF a5 q1), .int .i64 q0] (by rfl) rfl rfl (by (try simp only [List.map_toArray, List.map_cons, List.map_nil]); first | done | rfl) ?_
  refine (impl_Window_part.calls a1 a2 a3 a4 (beginF a5 q1) q0 a1 (wrap64 (a2 + beginF a5 q1)) q0 q0 w7 rfl).mono ?_
  rintro e w8 ⟨rfl, hb⟩
  refine ⟨_, rfl, ?_⟩
  replace BKg := Aside0.mk (blk_below BKg.out hb)
  replace BK3 := Aside0.mk (blk_below BK3.out hb)
  replace BK4 := Aside0.mk (blk_below BK4.out hb)
  replace HGr := Aside0.mk (HGr.out.trans (grown_but (grown_below hb) (some g)))
  have Z4 := Aside0.mk (below_size hb)
  clear hb
  refine hK.out _ _ ⟨(blk_cell BKg.out 1).trans rfl, (blk_cell BKg.out 2).trans rfl, (blk_cell BKg.out 3).trans rfl, (blk_cell BKg.out 4).trans rfl, (blk_cell BK3.out 0).trans rfl⟩ (fun hHeld => ?_)
  clear hK K
  refine norm_ (a' := ?_) ?_ ?_
  rotate_left
  · show Act.put _ (some 38) _ = _
    simp only [Act.put, List.setIfInBounds_toArray, List.set_cons_zero, List.set_cons_succ, i64_w, i32_w]
    rfl
  have z0 : w8.cell? ⟨w.heap.size + 1, 0, none⟩ = some (.int .i64 0) := (blk_cell BK4.out 0).trans rfl
  have z1 : w8.cell? ⟨w.heap.size + 1, 1, none⟩ = some (.int .i64 0) := (blk_cell BK4.out 1).trans rfl
  have z2 : w8.cell? ⟨w.heap.size + 1, 2, none⟩ = some (.int .i64 0) := (blk_cell BK4.out 2).trans rfl
  have z3 : w8.cell? ⟨w.heap.size + 1, 3, none⟩ = some (.int .i64 0) := (blk_cell BK4.out 3).trans rfl
  have zf0 := blk_frozen BK4.out 0
  have zf1 := blk_frozen BK4.out 1
  have zf2 := blk_frozen BK4.out 2
  have zf3 := blk_frozen BK4.out 3
  have zl := blk_lt BK4.out
  refine last_ (i := 8) (N := none) #[true, true, true, true, true, true, true, true, true, false] rfl rfl (by kernel_rfl) (by decide) (fun K hK => ?_)
  refine skip_ (w1 := ?_) (by rfl) rfl ?_ ?_
  rotate_left
  · go_simp
    rfl
  refine hK.out _ _ ?_
  clear hK K
  refine pure_ (i := 9) (N := some 5) (v := ?_) (a' := ?_) #[true, true, true, true, true, true, true, true, true, true] rfl rfl (by kernel_rfl) (fun _ _ _ h => h) (Or.inl ⟨by rfl, ?_⟩) ?_ ?_
  rotate_left
  · intro w'
    go_simp
    with_reducible rfl
  rotate_left
  · simp only [Act.put, List.setIfInBounds_toArray, List.set_cons_zero, List.set_cons_succ, i64_w, i32_w]
    rfl
  refine done_ (by kernel_rfl) ?_
  go_wp2_with fail
  refine bodyPost_ret (results_ct rfl _ _ (w.heap.size + 1) 32 #[(.int .i64 a1), (.int .i64 (wrap64 (a2 + beginF a5 q1))), (.int .i64 q0), (.int .i64 q0)] (0, 0) _ rfl (by (with_reducible repeat (first | refine blk_drewN ?_ _ | refine blk_drew ?_ | refine blk_alloc ?_ _)); refine blk_put (cs := #[(.int .i64 a1), (.int .i64 (wrap64 (a2 + beginF a5 q1))), (.int .i64 q0), (.int .i64 0)]) ?_ 3 _ rfl; (with_reducible repeat (first | refine blk_drewN ?_ _ | refine blk_drew ?_ | refine blk_alloc ?_ _)); refine blk_put (cs := #[(.int .i64 a1), (.int .i64 (wrap64 (a2 + beginF a5 q1))), (.int .i64 0), (.int .i64 0)]) ?_ 2 _ rfl; (with_reducible repeat (first | refine blk_drewN ?_ _ | refine blk_drew ?_ | refine blk_alloc ?_ _)); refine blk_put (cs := #[(.int .i64 a1), (.int .i64 0), (.int .i64 0), (.int .i64 0)]) ?_ 1 _ rfl; (with_reducible repeat (first | refine blk_drewN ?_ _ | refine blk_drew ?_ | refine blk_alloc ?_ _)); refine blk_put (cs := #[(.int .i64 0), (.int .i64 0), (.int .i64 0), (.int .i64 0)]) ?_ 0 _ rfl; (with_reducible repeat (first | refine blk_drewN ?_ _ | refine blk_drew ?_ | refine blk_alloc ?_ _)); exact BK4.out) Try.underlying32 rfl (by kernel_rfl)) rfl ?_
  have hne := Nat.ne_of_lt (Nat.lt_succ_of_lt HG.out)
  have hst : ∀ (W : World) (j : Nat) (u : Value), w.grownBy W (some g) → w.grownBy (W.setCell ⟨w.heap.size + 1, j, none⟩ u) (some g) := fun W j u hW => ⟨hW.os, hW.tape, hW.output, by have := hW.size; simpa [World.setCell] using this, fun k hk hn => (Below.heap_setCell _ _ _ k (by show k ≠ w.heap.size + 1; omega)).trans (hW.block k hk hn)⟩
  exact ⟨rfl, blk_far (p := ⟨w.heap.size + 1, 3, none⟩) (blk_far (p := ⟨w.heap.size + 1, 2, none⟩) (blk_far (p := ⟨w.heap.size + 1, 1, none⟩) (blk_far (p := ⟨w.heap.size + 1, 0, none⟩) BKg.out hne _) hne _) hne _) hne _, hst _ _ _ (hst _ _ _ (hst _ _ _ (hst _ _ _ HGr.out)))⟩
end Go.Proofs.Ytmkcbbbknbahgaa.P
namespace Go.Proofs.Ytmkcbbbknbahgaa.P
open Go.RowKit Go.Proofs.YtmkcbbbknbahgaaW.PrintWords Go.Proofs.YtmkcbbbknbahgaaW.PrintLast Go.Proofs.YtmkcbbbknbahgaaW.PrintMore
set_option linter.unusedVariables false
set_option linter.unusedSimpArgs false

/-- Giving one behind the other: the number of used bytes, the windows, and whether there was room for all. -/
def giveRun (a1 a2 a3 : Int) : List S74 → Int → List S32 → Int × List S32 × Bool
  | [], u, out => (u, out, true)
  | q :: qs, u, out => if q.f0 > wrap64 (a3 - beginF u q.f1) then (u, [], false) else giveRun a1 a2 a3 qs (wrap64 (beginF u q.f1 + q.f0)) (out ++ [⟨a1, wrap64 (a2 + beginF u q.f1), q.f0, q.f0⟩])

set_option maxHeartbeats 8000000 in
set_option maxRecDepth 100000 in
theorem giveAll_calls (g : Nat) (A0 : Option Addr) (n0 c0 : Nat) (a1 a2 a3 a4 a5 : Int) (A6 : Option Addr) (n6 c6 : Nat) (A1 : Option Addr) (c1 : Nat) (l1 : List S74) (w0 w : World) (hB : Below w0.heap.size w0 w) (hg0 : w0.heap.size ≤ g)
    (hb : w.heap[g]? = some (.cells #[.slice A0 n0 c0, .int .i64 a1, .int .i64 a2, .int .i64 a3, .int .i64 a4, .int .i64 a5, .slice A6 n6 c6] 70 (0, 0))) (hR : Kd.C k74 w0 A1 l1.length l1) (hq : ∀ q ∈ l1, q.f1 ≠ 0) (hl : l1.length ≤ 1048576) :
    Calls Try.prog 111 #[.pointer (some ⟨g, 0, none⟩), .slice A1 l1.length c1] w fun e w' => ∃ v, e = .returned (.tuple #[v, .bool (giveRun a1 a2 a3 l1 a5 []).2.2]) ∧ Kd.R k32 32 w' w.heap.size (fun _ => True) v (giveRun a1 a2 a3 l1 a5 []).2.1 ∧
      w'.heap[g]? = some (.cells #[.slice A0 n0 c0, .int .i64 a1, .int .i64 a2, .int .i64 a3, .int .i64 a4, .int .i64 (giveRun a1 a2 a3 l1 a5 []).1, .slice A6 n6 c6] 70 (0, 0)) ∧ w.grownBy w' (some g) := by
  have hu1 := Try.underlying70
  have hu2 := Try.underlying74
  have hu3 := Try.underlying32
  have HG := Aside0.mk (blk_lt hb)
  have HG0 := Aside0.mk hg0
  have HR := Aside0.mk hR
  have HBK := Aside0.mk hb
  have HB0 := Aside0.mk hB
  have HQ := Aside0.mk hq
  clear hB hg0 hb hR hq
  go_enter Try.func111, Try.ntmps111
  go_wp2_with (first | ((with_reducible refine gate_dst (N := 11) rfl ?_); refine Kd.R_lit k32 _ 32 ?hg (N := 11) ?hd (xs := ([] : List S32)) (inner := []) (ok := fun _ => True) (okp := fun _ => True) ?hr ?hp (fun _ hk => hk) trivial (Below.refl _ _) (Nat.le_refl _) (by simp) ?_; (case hd => rfl); (case hg => rfl); (case hr => first | (go_simp; done) | (go_simp; rfl)); (case hp => exact Reps.none _ _); intro v0 w1 ho hb1 hg1 hn1; have HO := Aside0.mk ho; have HGr := Aside0.mk (grown_but hg1 (some g)); have HBK1 := Aside0.mk ((hg1.block g HG.out (by simp)).trans HBK.out); clear ho hb1 hg1 hn1))
  go_loopg [6, 14] l1.length (fun gg s6 s14 wr => ∃ (i : Nat) (u : Int) (out : List S32), s14 = .int .i64 (i : Int) ∧ Aside0 (i ≤ l1.length) ∧ Aside0 (l1.length ≤ gg + i) ∧ Aside0 (giveRun a1 a2 a3 l1 a5 [] = giveRun a1 a2 a3 (l1.drop i) u out) ∧ Aside0 (out.length = i) ∧ Aside0 (wr.heap[g]? = some (.cells #[.slice A0 n0 c0, .int .i64 a1, .int .i64 a2, .int .i64 a3, .int .i64 a4, .int .i64 u, .slice A6 n6 c6] 70 (0, 0))) ∧ Aside0 (Kd.R k32 32 wr w.heap.size (fun _ => True) s6 out) ∧ Aside0 (w.grownBy wr (some g)))
  case atStart => exact ⟨0, a5, [], rfl, ⟨by omega⟩, ⟨by omega⟩, ⟨rfl⟩, ⟨rfl⟩, HBK1, HO, HGr⟩
  case round =>
    clear HBK1 HO HGr
    obtain ⟨i, u, out, rfl, H0, H1, HI, HL, HBK, HO, HGr⟩ := hrel
    have HB1 := Aside0.mk (show Below w0.heap.size w0 wr from ⟨HGr.out.os.trans HB0.out.os, HGr.out.tape.trans HB0.out.tape, HGr.out.output.trans HB0.out.output, Nat.le_trans HB0.out.size HGr.out.size, fun k hk => (HGr.out.block k (Nat.lt_of_lt_of_le hk HB0.out.size) (fun e => by have := HG0.out; cases e; omega)).trans (HB0.out.block k hk)⟩)
    by_cases hlt : i < l1.length
    · have hd : decide ((i : Int) < (l1.length : Int)) = true := decide_eq_true (by omega)
      obtain ⟨ad, e, hx0, hx1⟩ := at_T74 (Kd.C_below HR.out HB1.out) (i : Int) (by omega) (by omega)
      cases e
      have hget : rd_T74 l1 (i : Int) = l1[i] := by unfold rd_T74; rw [Int.toNat_natCast, List.getD_eq_getElem?_getD, List.getElem?_eq_getElem hlt]; rfl
      rw [hget] at hx0 hx1
      rw [Int.toNat_natCast] at hx0 hx1
      have hqi := HQ.out _ (List.getElem_mem hlt)
      have hlti : ((i : Int) < (l1.length : Int)) = True := eq_true (by omega)
      have hnn : (0 ≤ (i : Int)) = True := eq_true (by omega)
      generalize hqe : l1[i] = q at hx0 hx1 hqi
      have HQE := Aside0.mk hqe
      clear hqe hget
      go_wp2_with fail
      have HA := Below.alloc (Below.refl wr.heap.size wr) (Nat.le_refl _) (.cells #[.int .i64 q.f0, .int .i64 q.f1] 74)
      have HBKa := blk_below HBK.out HA
      have HOa := Aside0.mk (Kd.R_below HO.out HA)
      have HGa := Aside0.mk (HGr.out.trans (grown_but (grown_below HA) (some g)))
      have Z1 := Aside0.mk (show w.heap.size ≤ (wr.alloc (.cells #[.int .i64 q.f0, .int .i64 q.f1] 74)).heap.size from HGa.out.size)
      clear HA
      have hstep : giveRun a1 a2 a3 (l1.drop i) u out = if q.f0 > wrap64 (a3 - beginF u q.f1) then (u, [], false) else giveRun a1 a2 a3 (l1.drop (i + 1)) (wrap64 (beginF u q.f1 + q.f0)) (out ++ [⟨a1, wrap64 (a2 + beginF u q.f1), q.f0, q.f0⟩]) := by
        rw [List.drop_eq_getElem_cons hlt, HQE.out]
        rfl
      have HS := Aside0.mk hstep
      clear hstep
      by_cases hno : q.f0 > wrap64 (a3 - beginF u q.f1)
      · have e1 := HI.out.trans (HS.out.trans (if_pos hno))
        refine (give_no g A0 n0 c0 a1 a2 a3 a4 u A6 n6 c6 q.f0 q.f1 hqi hno _ HBKa).mono ?_
        rintro e w' ⟨rfl, hb⟩
        have HBK2 := Aside0.mk (blk_below HBKa hb)
        have HG2 := Aside0.mk (HGa.out.trans (grown_but (grown_below hb) (some g)))
        clear hb HBKa HBK HGr HO HOa
        have HE := Aside0.mk e1
        clear e1 HI HS
        go_wp2_with fail
        go_ret2
        rw [HE.out]
        exact ⟨_, rfl, Kd.R_nil _ _ _ _ _, by (with_reducible repeat (first | refine blk_drewN ?_ _ | refine blk_drew ?_ | refine blk_alloc ?_ _)); exact HBK2.out, HG2.out.trans (grown_but (grown_below (by repeat (first | (with_reducible first | exact Below.refl _ _ | apply below_alloc | apply pw_below_drewN | apply below_drew1) | exact Below.refl _ _))) (some g))⟩
      · have e1 := HI.out.trans (HS.out.trans (if_neg hno))
        refine (give_yes g A0 n0 c0 a1 a2 a3 a4 u A6 n6 c6 q.f0 q.f1 hqi hno _ HBKa).mono ?_
        rintro e w' ⟨rfl, hbk, hg⟩
        have HBK2 := Aside0.mk hbk
        have HO2 := Aside0.mk (Kd.R_over' (v := .slice (some ⟨g, 0, none⟩) 0 0) HOa.out (fun k hk => by cases hk; exact ⟨_, HBKa⟩) (by decide) hg)
        have HG2 := Aside0.mk (HGa.out.trans hg)
        have HE := Aside0.mk e1
        clear hbk hg HBKa HBK HGr HO HOa e1 HI HS hno
        have HAw := Below.alloc (Below.refl w'.heap.size w') (Nat.le_refl _) (.cells #[.int .i64 a1, .int .i64 (wrap64 (a2 + beginF u q.f1)), .int .i64 q.f0, .int .i64 q.f0] 32)
        have HO3 := Aside0.mk (Kd.R_below HO2.out HAw)
        have HBK3 := Aside0.mk (blk_below HBK2.out HAw)
        have HG3 := Aside0.mk (HG2.out.trans (grown_but (grown_below HAw) (some g)))
        clear HAw HO2 HBK2 HG2
        have hlen : (out.length + 1) * 32 ≤ 140737488355328 := by have := HL.out; omega
        have HLen := Aside0.mk hlen
        clear hlen
        go_wp2_with (first | ((with_reducible refine gate_builtin (b := .append) (xs := #[.tmp 26, .tmp 28]) rfl ?_); at_builtin; refine Kd.R_append k32 w.heap.size rfl (.tmp 26) (.tmp 28) 82 32 (.agg #[(.int .i64 0), (.int .i64 0), (.int .i64 0), (.int .i64 0)]) 32 rfl Try.underlying82 info32 rfl (by decide) (by omega) u6 out (⟨a1, wrap64 (a2 + beginF u q.f1), q.f0, q.f0⟩ : S32) [.int .i64 a1, .int .i64 (wrap64 (a2 + beginF u q.f1)), .int .i64 q.f0, .int .i64 q.f0] (fun _ => True) (fun _ => False) rfl (by first | (go_simp; done) | (go_simp; rfl)) ?aP (fun _ hk => hk.elim) (fun _ _ => trivial) ?aO (Below.refl _ _) ?aS ?aL ?_; (case aP => exact k32_mkM _ _ _ (⟨a1, wrap64 (a2 + beginF u q.f1), q.f0, q.f0⟩ : S32)); (case aO => exact HO3.out); (case aS => exact HG3.out.size); (case aL => exact HLen.out); intro v5 w5 ho5 hb5 hg5 hn5; have HO5 := Aside0.mk ho5; have HG5 := Aside0.mk hg5; clear ho5 hb5 hg5 hn5))
        have hbase := Kd.R_base HO3.out
        have hneg : some g ≠ u6.ownBlock := fun e => by have := hbase g e.symm; have := HG.out; omega
        have HBK5 := Aside0.mk ((HG5.out.block g (blk_lt HBK3.out) hneg).trans HBK3.out)
        have HG6 := Aside0.mk (show w.grownBy w5 (some g) from ⟨HG5.out.os.trans HG3.out.os, HG5.out.tape.trans HG3.out.tape, HG5.out.output.trans HG3.out.output, Nat.le_trans HG3.out.size HG5.out.size, fun k hk hne => (HG5.out.block k (Nat.lt_of_lt_of_le hk HG3.out.size) (fun e => by have := hbase k e.symm; omega)).trans (HG3.out.block k hk hne)⟩)
        clear hbase hneg HG5 HBK3 HG3 HO3 hx0 hx1 hlti hnn hd
        go_roundg (l1.length - (i + 1))
        case measure => have := H1.out; omega
        case rel => exact ⟨i + 1, wrap64 (beginF u q.f1 + q.f0), out ++ [⟨a1, wrap64 (a2 + beginF u q.f1), q.f0, q.f0⟩], by simp, ⟨by omega⟩, ⟨by have := H1.out; omega⟩, HE, ⟨by rw [List.length_append, HL.out]; rfl⟩, HBK5, HO5, HG6⟩
    · have hd : decide ((i : Int) < (l1.length : Int)) = false := decide_eq_false (by omega)
      have e1 := HI.out
      rw [List.drop_eq_nil_of_le (by omega)] at e1
      have e2 : giveRun a1 a2 a3 l1 a5 [] = (u, out, true) := e1
      have HE := Aside0.mk e2
      clear e1 e2 HI
      go_wp2
      go_ret2
      rw [HE.out]
      exact ⟨_, rfl, HO.out, HBK.out, HGr.out⟩
end Go.Proofs.Ytmkcbbbknbahgaa.P
namespace Go.Proofs.Ytmkcbbbknbahgaa.P
open Go.RowKit Go.Proofs.YtmkcbbbknbahgaaW.PrintWords Go.Proofs.YtmkcbbbknbahgaaW.PrintLast Go.Proofs.YtmkcbbbknbahgaaW.PrintMore
set_option linter.unusedVariables false
set_option linter.unusedSimpArgs false

def slices_Clone_byte.f (l0 : List Int) : Option (List Int) := if l0.length < 140737488355328 then some l0 else none

set_option maxHeartbeats 8000000 in
set_option maxRecDepth 100000 in
theorem slices_Clone_byte.calls (A0 : Option Addr) (c0 : Nat) (l0 : List Int) (r : List Int) (w : World) (hr0 : Kd.C (Kd.int .u8) w A0 l0.length l0) (hc0 : l0.length ≤ c0) (h : slices_Clone_byte.f l0 = some r) :
    Calls Try.prog 161 #[.slice A0 l0.length c0] w fun e w' => ∃ v0_ : Value, e = .returned (v0_) ∧ Kd.R (Kd.int .u8) 5 w' w.heap.size (fun _ => True) v0_ r ∧ Below w.heap.size w w' := by
  have hsn := fun (W : World) (a : Option Addr) (n c : Nat) => Lib.run_eql_slice_nil (P := Try.prog) W 29 5 a n c 0 0 Try.underlying29
  unfold slices_Clone_byte.f at h
  by_cases hl : l0.length < 140737488355328
  · rw [if_pos hl] at h
    obtain rfl := Option.some.inj h
    clear h
    have HL := Aside0.mk hl
    clear hl
    cases A0 with
    | none =>
      have h0 : l0.length = 0 := by
        rcases Nat.eq_zero_or_pos l0.length with h | h
        · exact h
        · obtain ⟨ad, he, _⟩ := hr0.2.2 h
          cases he
      have hl0 : l0 = [] := List.length_eq_zero_iff.1 h0
      subst hl0
      clear hr0 h0
      go_enter Try.func161, Try.ntmps161
      go_wp2
      go_ret
      exact ⟨_, rfl, Kd.R_nil _ _ _ _ _, Below.refl _ _⟩
    | some ad =>
      have HR0 := Aside0.mk hr0
      have HC0 := Aside0.mk hc0
      clear hr0 hc0
      have HB := Aside0.mk (Below.refl w.heap.size w)
      go_enter Try.func161, Try.ntmps161
      go_wp2_with (first | ((with_reducible refine gate_dst (N := 5) rfl ?_); refine Kd.R_lit (Kd.int .u8) _ 5 ?hg (N := 5) ?hd (xs := ([] : List Int)) (inner := []) (ok := fun _ => True) (okp := fun _ => True) ?hr ?hp (fun _ hk => hk) trivial (Below.refl _ _) (Nat.le_refl _) (by simp) ?_; (case hd => rfl); (case hg => rfl); (case hr => first | (go_simp; done) | (go_simp; rfl)); (case hp => exact (Reps.none _ _)); intro v143 w3 ho4 hb hg_ hnew_; clear hg_ hnew_; have HO144 := Aside0.mk ho4; have n1_ := Aside0.mk (below_step HB.out hb); clear HB; have HB := n1_; clear n1_; clear hb ho4) | ((with_reducible refine gate_builtin (b := .append) (xs := #[.tmp 5, .tmp 6]) rfl ?_); at_builtin; refine Kd.R_append_rows (Kd.int .u8) (w0 := w) w.heap.size rfl (.tmp 5) (.tmp 6) 29 5 (.int .u8 0) 1 rfl Try.underlying29 info5 rfl (by decide) (by omega) v143 [] l0 _ _ _ (fun _ => True) (fun _ => False) rfl rfl ?aO ?aR (fun _ _ h => h) (fun _ h => h.elim) ?aF ?aB ?aS ?aL ?_; (case aR => exact Kd.C_below HR0.out HB.out); (case aB => exact HB.out); (case aF => exact (fun _ _ => trivial)); (case aO => exact HO144.out); (case aS => exact (below_size HB.out)); (case aL => have := HL.out; simp only [List.length_nil]; omega); intro v146 w5 ho hb hg hat; have n0_ := Aside0.mk (hb); have n1_ := Aside0.mk (ho); clear HB; clear HO144; have HB := n0_; have HO147 := n1_; clear n0_ n1_; clear ho hb hg hat))
      go_ret
      exact ⟨_, rfl, HO147.out, HB.out⟩
  · rw [if_neg hl] at h
    exact absurd h (by simp)

def slices_Clone_int.f (l0 : List Int) : Option (List Int) := if l0.length < 17592186044416 then some l0 else none

set_option maxHeartbeats 8000000 in
set_option maxRecDepth 100000 in
theorem slices_Clone_int.calls (A0 : Option Addr) (c0 : Nat) (l0 : List Int) (r : List Int) (w : World) (hr0 : Kd.C (Kd.int .i64) w A0 l0.length l0) (hc0 : l0.length ≤ c0) (h : slices_Clone_int.f l0 = some r) :
    Calls Try.prog 156 #[.slice A0 l0.length c0] w fun e w' => ∃ v0_ : Value, e = .returned (v0_) ∧ Kd.R (Kd.int .i64) 3 w' w.heap.size (fun _ => True) v0_ r ∧ Below w.heap.size w w' := by
  have hsn := fun (W : World) (a : Option Addr) (n c : Nat) => Lib.run_eql_slice_nil (P := Try.prog) W 63 3 a n c 0 0 Try.underlying63
  unfold slices_Clone_int.f at h
  by_cases hl : l0.length < 17592186044416
  · rw [if_pos hl] at h
    obtain rfl := Option.some.inj h
    clear h
    have HL := Aside0.mk hl
    clear hl
    cases A0 with
    | none =>
      have h0 : l0.length = 0 := by
        rcases Nat.eq_zero_or_pos l0.length with h | h
        · exact h
        · obtain ⟨ad, he, _⟩ := hr0.2.2 h
          cases he
      have hl0 : l0 = [] := List.length_eq_zero_iff.1 h0
      subst hl0
      clear hr0 h0
      go_enter Try.func156, Try.ntmps156
      go_wp2
      go_ret
      exact ⟨_, rfl, Kd.R_nil _ _ _ _ _, Below.refl _ _⟩
    | some ad =>
      have HR0 := Aside0.mk hr0
      have HC0 := Aside0.mk hc0
      clear hr0 hc0
      have HB := Aside0.mk (Below.refl w.heap.size w)
      go_enter Try.func156, Try.ntmps156
      go_wp2_with (first | ((with_reducible refine gate_dst (N := 5) rfl ?_); refine Kd.R_lit (Kd.int .i64) _ 3 ?hg (N := 5) ?hd (xs := ([] : List Int)) (inner := []) (ok := fun _ => True) (okp := fun _ => True) ?hr ?hp (fun _ hk => hk) trivial (Below.refl _ _) (Nat.le_refl _) (by simp) ?_; (case hd => rfl); (case hg => rfl); (case hr => first | (go_simp; done) | (go_simp; rfl)); (case hp => exact (Reps.none _ _)); intro v143 w3 ho4 hb hg_ hnew_; clear hg_ hnew_; have HO144 := Aside0.mk ho4; have n1_ := Aside0.mk (below_step HB.out hb); clear HB; have HB := n1_; clear n1_; clear hb ho4) | ((with_reducible refine gate_builtin (b := .append) (xs := #[.tmp 5, .tmp 6]) rfl ?_); at_builtin; refine Kd.R_append_rows (Kd.int .i64) (w0 := w) w.heap.size rfl (.tmp 5) (.tmp 6) 63 3 (.int .i64 0) 8 rfl Try.underlying63 info3 rfl (by decide) (by omega) v143 [] l0 _ _ _ (fun _ => True) (fun _ => False) rfl rfl ?aO ?aR (fun _ _ h => h) (fun _ h => h.elim) ?aF ?aB ?aS ?aL ?_; (case aR => exact Kd.C_below HR0.out HB.out); (case aB => exact HB.out); (case aF => exact (fun _ _ => trivial)); (case aO => exact HO144.out); (case aS => exact (below_size HB.out)); (case aL => have := HL.out; simp only [List.length_nil]; omega); intro v146 w5 ho hb hg hat; have n0_ := Aside0.mk (hb); have n1_ := Aside0.mk (ho); clear HB; clear HO144; have HB := n0_; have HO147 := n1_; clear n0_ n1_; clear ho hb hg hat))
      go_ret
      exact ⟨_, rfl, HO147.out, HB.out⟩
  · rw [if_neg hl] at h
    exact absurd h (by simp)
end Go.Proofs.Ytmkcbbbknbahgaa.P
namespace Go.Proofs.Ytmkcbbbknbahgaa.P
open Go.RowKit Go.Proofs.YtmkcbbbknbahgaaW.PrintWords Go.Proofs.YtmkcbbbknbahgaaW.PrintLast Go.Proofs.YtmkcbbbknbahgaaW.PrintMore
attribute [local go_sem] max2_int min2_int max_two min_two max_three min_three max_four min_four   -- for this text's walks alone
set_option linter.unusedVariables false
set_option linter.unusedSimpArgs false

def impl_Memory_own.l0 : Nat → List (List Int) → Int → Int → List (List Int) → Option ((List (List Int)))
 | 0, _, _, _, _ => none
 | k + 1, x8, x9, x10, x317000 => if x10 < x9 then (if 0 ≤ x10 then (if x10 < (x8.length : Int) then ((slices_Clone_byte.f (rd_L1 x8 x10)).bind fun t318 => (if x317000.length < 5864062014805 then (impl_Memory_own.l0 k x8 x9 (wrap64 (x10 + 1)) (x317000 ++ [t318])) else (none))) else (none)) else (none)) else (some x317000)

def impl_Memory_own.f (k : Nat) (l0_0 : List (List Int)) : Option ((List (List Int))) := impl_Memory_own.l0 k l0_0 (l0_0.length : Int) 0 ([] : List (List Int))

def impl_Memory_own.T5 : Bool × List (List Nat × List Nat) := (true, [([], []), ([0], [0]), ([], []), ([2], [2]), ([3], [3]), ([1, 4, 3], [1, 4]), ([0, 1, 2, 3, 4, 5], []), ([6, 5, 5, 0, 1, 2, 3, 4, 5], [5, 6])])

def impl_Memory_own.B5 : List Nat := [0, 1, 0, 4, 12, 31, 63, 127]

theorem impl_Memory_own.tab5 : rtab .any (opsOf Try.f127 5) = impl_Memory_own.T5 := by kernel_rfl

theorem impl_Memory_own.bits5 : waitsOk impl_Memory_own.T5.2 impl_Memory_own.B5 = true := by kernel_rfl

set_option maxHeartbeats 8000000 in
set_option maxRecDepth 100000 in
theorem impl_Memory_own.calls (k : Nat) (A0_0 : Option Addr) (c0_0 : Nat) (l0_0 : List (List Int)) (r : List (List Int)) (w : World) (hr0_0 : Kd.C (Kd.slice 5 (Kd.int .u8)) w A0_0 l0_0.length l0_0) (hc0_0 : l0_0.length ≤ c0_0) (h : impl_Memory_own.f k l0_0 = some r) :
  Calls Try.prog 127 #[.agg #[.slice A0_0 l0_0.length c0_0]] w fun e w' => ∃ v0_ : Value, e = .returned (.agg #[v0_]) ∧ Kd.S (Kd.slice 5 (Kd.int .u8)) 29 w' w.heap.size (fun _ => True) v0_ r ∧ Below w.heap.size w w' := by
 have hu31 := Try.underlying31
 have HR0_0 := Aside0.mk hr0_0
 have HC0_0 := Aside0.mk hc0_0
 clear hr0_0 hc0_0
 have HB := Aside0.mk (Below.refl w.heap.size w)
 have H : (impl_Memory_own.l0 k l0_0 (l0_0.length : Int) 0 ([] : List (List Int))) = some r := h
 clear h
 have H' := Aside0.mk H
 clear H
 go_enter Try.func127, Try.ntmps127
 go_wp2_with (first | ((with_reducible refine gate_dst (N := 1) rfl ?_); refine box_event ?hg (N := 1) ?hd (cs := #[.slice A0_0 l0_0.length c0_0]) (t := 31) ?hr ?_; (case hd => rfl); (case hg => rfl); (case hr => exact gs_); intro gb314 hg w2 hbox hb; have BK314 := Aside0.mk (hbox); have GW314 := gE_ HB hg; have GE314 := gE_ HB hg; replace HB := Aside0.mk (below_step (by repeat (first | (with_reducible first | exact HB.out | apply ba_ | apply bn_ | apply bd_) | exact HB.out)) hb); clear hb hbox hg) | ((with_reducible refine gate_dst (N := 2) rfl ?_); refine box_event ?hg (N := 2) ?hd (cs := #[.slice none 0 0]) (t := 31) ?hr ?_; (case hd => rfl); (case hg => rfl); (case hr => exact gs_); intro gb315 hg w3 hbox hb; have BK315 := Aside0.mk (hbox); have GW315 := gE_ HB hg; have GE315 := gE_ HB hg; replace HB := Aside0.mk (below_step (by repeat (first | (with_reducible first | exact HB.out | apply ba_ | apply bn_ | apply bd_ | refine bset_ ?_ (by assumption)) | exact HB.out)) hb); have NB314_315 := nB_ BK314 hg; have NB315_314 := nA_ BK314 hg; replace BK314 := bB_ BK314 hb; clear hb hbox hg) | ((with_reducible refine gate_dst (N := 3) rfl ?_); refine box_event ?hg (N := 3) ?hd (cs := #[.slice none 0 0]) (t := 31) ?hr ?_; (case hd => rfl); (case hg => rfl); (case hr => exact gs_); intro gb316 hg w4 hbox hb; have BK316 := Aside0.mk (hbox); have GW316 := gE_ HB hg; have GE316 := gE_ HB hg; replace HB := Aside0.mk (below_step (by repeat (first | (with_reducible first | exact HB.out | apply ba_ | apply bn_ | apply bd_ | refine bset_ ?_ (by assumption)) | exact HB.out)) hb); have NB314_316 := nB_ BK314 hg; have NB316_314 := nA_ BK314 hg; replace BK314 := bB_ BK314 hb; have NB315_316 := nB_ BK315 hg; have NB316_315 := nA_ BK315 hg; replace BK315 := bB_ BK315 hb; clear hb hbox hg; have hnb5 := NB316_314.out; have hnc5 := NB314_316.out; have hnb6 := NB316_315.out; have hnc6 := NB315_316.out; have hcz7_0 : w4.cell? ⟨gb316, 0, none⟩ = some (.slice none 0 0) := (blk_cell BK316.out 0).trans rfl; have hfz7_0 := blk_frozen BK316.out 0; have hnb8 := NB314_315.out; have hnc8 := NB315_314.out; have hcz9_0 : w4.cell? ⟨gb314, 0, none⟩ = some (.slice A0_0 l0_0.length c0_0) := (blk_cell BK314.out 0).trans rfl; have hfz9_0 := blk_frozen BK314.out 0))
 go_loopg [10] k (fun kq v10 w' => ∃ (x10_1 : Int) (x317000_1 : List (List Int)) (u317000 : Value), v10 = .int .i64 x10_1 ∧ Aside0 (impl_Memory_own.l0 kq l0_0 (l0_0.length : Int) x10_1 x317000_1 = some r) ∧ Aside0 (kq ≤ k) ∧ Aside0 (Kd.S (Kd.slice 5 (Kd.int .u8)) 29 w' w.heap.size (fun _ => True) u317000 x317000_1) ∧ Aside0 (w'.heap[gb314]? = some (.cells #[(.slice A0_0 l0_0.length c0_0)] 31 (0, 0))) ∧ Aside0 (w'.heap[gb315]? = some (.cells #[(.slice none 0 0)] 31 (0, 0))) ∧ Aside0 (w'.heap[gb316]? = some (.cells #[u317000] 31 (0, 0))) ∧ Aside0 (Below w.heap.size w w'))
 case atStart => exact ⟨(0), (([] : List (List Int))), (.slice none 0 0), (by first | rfl | (simp; done) | (simp [*]; done)), H', ⟨Nat.le_refl _⟩, ⟨by first | exact Kd.S_nil _ _ _ _ _ | exact Kd.N_nil _ _ _ _ _ | exact Kd.V_nil _ _ _ _ _ | exact Kd.Q_nil _ _ _ _ _ | exact Kd.R_nil _ _ _ _ _⟩, ⟨by (with_reducible repeat first | apply kb1_ | apply kb2_ | apply kb3_); refine blk_far ?_ NB314_316.out _; (with_reducible repeat first | apply kb1_ | apply kb2_ | apply kb3_); exact BK314.out⟩, ⟨by (with_reducible repeat first | apply kb1_ | apply kb2_ | apply kb3_); refine blk_far ?_ NB315_316.out _; (with_reducible repeat first | apply kb1_ | apply kb2_ | apply kb3_); exact BK315.out⟩, ⟨by (with_reducible repeat first | apply kb1_ | apply kb2_ | apply kb3_); refine blk_put (cs := #[.slice none 0 0]) ?_ 0 _ rfl; (with_reducible repeat first | apply kb1_ | apply kb2_ | apply kb3_); exact BK316.out⟩, ⟨by repeat (first | (with_reducible first | exact HB.out | apply below_alloc | apply pw_below_drewN | apply below_drew1 | refine below_set ?_ GE314.out | refine below_set ?_ GE315.out | refine below_set ?_ GE316.out) | exact HB.out)⟩⟩
 case round =>
  clear H'
  try clear c1
  try clear p2
  try clear c5
  try clear c6
  try clear c8
  try clear hcz7_0
  try clear hcz9_0
  try clear hfz7_0
  try clear hfz9_0
  obtain ⟨x10_1, x317000_1, u317000, rfl, HA, HK1, HO_317000, BK314, BK315, BK316, HB⟩ := hrel
  cases gk with
  | zero => exact absurd HA.out (by simp [impl_Memory_own.l0])
  | succ k1 =>
   have H := HA.out
   clear HA
   simp only [impl_Memory_own.l0] at H
   by_cases c10 : x10_1 < (l0_0.length : Int)
   ·rw [if_pos c10] at H
    have c10b0 : decide (x10_1 < (l0_0.length : Int)) = true := decide_eq_true c10
    clear c10
    by_cases c11 : 0 ≤ x10_1
    ·rw [if_pos c11] at H
     have c11b0 : decide (0 ≤ x10_1) = true := decide_eq_true c11
     clear c11
     by_cases c12 : x10_1 < (l0_0.length : Int)
     ·rw [if_pos c12] at H
      have c12b0 : decide (x10_1 < (l0_0.length : Int)) = true := decide_eq_true c12
      clear c12
      replace H := Option.bind_eq_some_iff.mp H
      obtain ⟨t318, A130, H⟩ := H
      replace H : (if x317000_1.length < 5864062014805 then (impl_Memory_own.l0 k1 l0_0 (l0_0.length : Int) (wrap64 (x10_1 + 1)) (x317000_1 ++ [t318])) else (none)) = some r := H
      have A13 := Aside0.mk A130
      clear A130
      by_cases c14 : x317000_1.length < 5864062014805
      ·rw [if_pos c14] at H
       have LMc14 := Aside0.mk c14
       clear c14
       obtain ⟨y321, hy321⟩ : ∃ y_ : List (List Int), y_ = (x317000_1 ++ [t318]) := ⟨_, rfl⟩
       replace H : (impl_Memory_own.l0 k1 l0_0 (l0_0.length : Int) (wrap64 (x10_1 + 1)) y321) = some r := by first | (rw [hy321]; with_reducible exact H) | (have H2_ := (Option.bind_some _ _).symm.trans H; rw [hy321]; with_reducible exact H2_) | (have H2_ := (Option.bind_some _ _).symm.trans H; with_reducible exact H2_) | with_reducible exact H | (rw [hy321]; exact H) | exact H
       have Ny321 := Aside0.mk hy321
       clear hy321
       have H' := Aside0.mk H
       clear H
       have p317 : 0 ≤ (x10_1 : Int) := of_decide_eq_true as_
       have q317 : x10_1 < (l0_0.length : Int) := of_decide_eq_true as_
       obtain ⟨ad317, A317_0, c317_0, e317, hx317_0, hl317_0, hi317_0⟩ := at_L1 HR0_0.out x10_1 p317 q317
       cases e317
       replace hx317_0 := (HB.out.cell (World.block_lt_of_cell? w _ hx317_0)).trans hx317_0
       have HR317_0 := Aside0.mk hi317_0
       have HC317_0 := Aside0.mk hl317_0
       clear hi317_0 hl317_0
       replace p317 := eq_true p317
       replace q317 := eq_true q317
       try go_wp2
       replace HO_317000 := Aside0.mk (Kd.S_drew HO_317000.out)
       replace BK314 := Aside0.mk (blk_drew BK314.out)
       replace BK315 := Aside0.mk (blk_drew BK315.out)
       replace BK316 := Aside0.mk (blk_drew BK316.out)
       replace HB := Aside0.mk (below_drew1 HB.out)
       refine start_ (n := 8) (S := fun w' => w'.cell? ⟨gb316, 0, none⟩ = some (u317000)) (ds := [7]) #[false, false, false, false, false, false, false, false] (by kernel_rfl) rfl rfl ((blk_cell BK316.out 0).trans rfl) (fun hHeld => ?_); refine with_tabW impl_Memory_own.tab5 impl_Memory_own.bits5 (fun HT_ HW_ => ?_)
       generalize wr.drew = w15 at HO_317000 BK314 BK315 BK316 HB hHeld ⊢
       refine pure_ (i := 0) (N := some 14) (v := ?_) (a' := ?_) #[true, false, false, false, false, false, false, false] rfl rfl (any_of HT_.out (by kernel_rfl)) (fun _ _ _ h => h) (Or.inl ⟨by rfl, ?_⟩) ?_ ?_
       rotate_left
       ·intro w'
        go_simp
        with_reducible rfl
       rotate_left
       ·simp only [Act.put, List.setIfInBounds_toArray, List.set_cons_zero, List.set_cons_succ, i64_w, i32_w]
        rfl
       refine pure_ (i := 2) (N := some 16) (v := ?_) (a' := ?_) #[true, false, true, false, false, false, false, false] rfl rfl (any_of HT_.out (by kernel_rfl)) (fun _ _ _ h => h) (Or.inl ⟨by rfl, ?_⟩) ?_ ?_
       rotate_left
       ·intro w'
        go_simp
        with_reducible rfl
       rotate_left
       ·simp only [Act.put, List.setIfInBounds_toArray, List.set_cons_zero, List.set_cons_succ, i64_w, i32_w]
        rfl
       refine take_ (i := 1) (N := some 15) (v := ?_) (a' := ?_) #[true, true, true, false, false, false, false, false] rfl rfl (take_ofW HT_.out HW_.out (by kernel_rfl)) (fun _ _ _ h => h) (Or.inl ⟨by rfl, ?_⟩) hHeld ?_ ?_
       rotate_left
       ·intro w' s0
        go_simp
        with_reducible rfl
       rotate_left
       ·simp only [Act.put, List.setIfInBounds_toArray, List.set_cons_zero, List.set_cons_succ, i64_w, i32_w]
        rfl
       refine one_ (i := 3) (N := some 17) #[true, true, true, true, false, false, false, false] rfl rfl (one_of HT_.out (by kernel_rfl)) (by decide) (fun K hK => ?_)
       refine goes_ Try.func161 (by kernel_rfl) rfl #[.slice A317_0 (rd_L1 l0_0 x10_1).length c317_0] (by rfl) rfl rfl ar_ ?_
       with_reducible refine (slices_Clone_byte.calls _ _ (rd_L1 l0_0 x10_1) t318 _ ?side1 ?side2 A13.out).mono ?_
       (case side1 => repeat (first | exact (Kd.C_below HR317_0.out HB.out) | (with_reducible refine Kd.C_alloc ?_ _) | (with_reducible refine Kd.C_drewN ?_ _) | (with_reducible refine Kd.C_drew ?_)))
       (case side2 => exact HC317_0.out)
       rintro e w16 ⟨v319, rfl, ho0, hb⟩
       refine ⟨_, rfl, ?_⟩
       replace HO_317000 := Aside0.mk (Kd.S_elder' (sK_ HO_317000) (Kd.R_base ho0) hb)
       have HO320 := Aside0.mk (rL_ ho0 HB)
       replace BK314 := bB_ BK314 hb
       replace BK315 := bB_ BK315 hb
       replace BK316 := bB_ BK316 hb
       replace HB := Aside0.mk (below_step (by repeat (first | (with_reducible first | exact HB.out | apply ba_ | apply bn_ | apply bd_ | refine bset_ ?_ (by assumption)) | exact HB.out)) hb)
       (try clear hb)
       (try clear hb2)
       (try clear hk)
       (try clear hi)
       (try clear ho0)
       obtain ⟨Ao18, co18, eo18⟩ := Kd.R_slice HO320.out
       (first | subst eo18 | (injection eo18 with f1_ f2_ f3_; have f4_ := f1_.symm; have f5_ := f3_.symm; clear f1_ f2_ f3_; subst f4_; subst f5_))
       refine hK.out _ _ ((blk_cell BK316.out 0).trans rfl) (fun hHeld => ?_)
       clear hK K
       refine norm_ (a' := ?_) ?_ ?_
       rotate_left
       ·show Act.put _ (some 17) _ = _
        simp only [Act.put, List.setIfInBounds_toArray, List.set_cons_zero, List.set_cons_succ, i64_w, i32_w]
        rfl
       refine one_ (i := 4) (N := some 18) #[true, true, true, true, true, false, false, false] rfl rfl (one_of HT_.out (by kernel_rfl)) (by decide) (fun K hK => ?_)
       refine value_ (w1 := ?_) (v := ?_) (by rfl) rfl ?_ ?_
       rotate_left 2
       ·go_simp
        constructor
        ·rfl
        ·rfl
       refine hK.out _ _ ((blk_cell (blk_alloc BK316.out _) 0).trans rfl) (fun hHeld => ?_)
       clear hK K
       refine norm_ (a' := ?_) ?_ ?_
       rotate_left
       ·show Act.put _ (some 18) _ = _
        simp only [Act.put, List.setIfInBounds_toArray, List.set_cons_zero, List.set_cons_succ, i64_w, i32_w]
        rfl
       refine one_ (i := 5) (N := some 19) #[true, true, true, true, true, true, false, false] rfl rfl (one_of HT_.out (by kernel_rfl)) (by decide) (fun K hK => ?_)
       refine Kd.S_append_step (Kd.slice 5 (Kd.int .u8)) (w0 := w) w.heap.size (by rfl) (.tmp 15) (.tmp 18) 22 29 (.slice none 0 0) 24 rfl Try.underlying22 info29 rfl (by decide) (by omega) u317000 x317000_1 t318 [.slice Ao18 t318.length co18] (fun _ => True) (fun k_ => some k_ = (.slice Ao18 t318.length co18 : Value).ownBlock) rfl rfl ?aP (fun k_ hk_ => ((Kd.R_mono (ok' := fun k_ => ((fun _ => True)) k_ ∧ some k_ ≠ (u317000 : Value).ownBlock) (Kd.R_apart' (HO320.out) (Kd.S_typed HO_317000.out) (by decide)) (fun k_ hk => ⟨trivial, hk.2⟩))).1 k_ hk_.symm) ?aF ?aO ?aB ?aS ?aL ?_
       (case aP => exact Kd.M_row (Kd.R_mono (Kd.R_tight rfl (Kd.R_mono (ok' := fun k_ => ((fun _ => True)) k_ ∧ some k_ ≠ (u317000 : Value).ownBlock) (Kd.R_apart' (HO320.out) (Kd.S_typed HO_317000.out) (by decide)) (fun k_ hk => ⟨trivial, hk.2⟩))) (fun _ h_ => h_)))
       (case aB => exact (by repeat (first | (with_reducible first | exact HB.out | apply ba_ | apply bn_ | apply bd_ | refine bset_ ?_ (by assumption)) | exact HB.out)))
       (case aF => exact (fun _ _ => trivial))
       (case aO => exact (by (with_reducible repeat first | apply ks1_ | apply ks2_ | apply ks3_); exact Kd.S_mono HO_317000.out (fun k_ hk => ⟨trivial, fun e_ => hk.2 e_⟩)))
       (case aS => exact (below_size (by repeat (first | (with_reducible first | exact HB.out | apply ba_ | apply bn_ | apply bd_ | refine bset_ ?_ (by assumption)) | exact HB.out))))
       (case aL => have := LMc14.out; omega)
       intro v322 w17 ho hb hg hat
       rw [← Ny321.out] at ho
       replace BK314 := Aside0.mk (blk_grown (g := gb314) (o := .cells #[.slice (some ad317) l0_0.length c0_0] 31 (0, 0)) (bK_ BK314) hg (Kd.S_ne HO_317000.out BK314.out (by decide)))
       replace BK315 := Aside0.mk (blk_grown (g := gb315) (o := .cells #[.slice none 0 0] 31 (0, 0)) (bK_ BK315) hg (Kd.S_ne HO_317000.out BK315.out (by decide)))
       replace BK316 := Aside0.mk (blk_grown (g := gb316) (o := .cells #[u317000] 31 (0, 0)) (bK_ BK316) hg (Kd.S_ne HO_317000.out BK316.out (by decide)))
       replace HB := Aside0.mk (hb)
       have HO323 := Aside0.mk (ho)
       clear HO_317000 HO320
       clear ho hb hg hat
       obtain ⟨Ao19, co19, eo19⟩ := Kd.S_slice HO323.out
       (first | subst eo19 | (injection eo19 with f1_ f2_ f3_; have f4_ := f1_.symm; have f5_ := f3_.symm; clear f1_ f2_ f3_; subst f4_; subst f5_))
       refine hK.out _ _ ((blk_cell BK316.out 0).trans rfl) (fun hHeld => ?_)
       clear hK K
       refine norm_ (a' := ?_) ?_ ?_
       rotate_left
       ·show Act.put _ (some 19) _ = _
        simp only [Act.put, List.setIfInBounds_toArray, List.set_cons_zero, List.set_cons_succ, i64_w, i32_w]
        rfl
       refine pure_ (i := 6) (N := some 20) (v := ?_) (a' := ?_) #[true, true, true, true, true, true, true, false] rfl rfl (any_of HT_.out (by kernel_rfl)) (fun _ _ _ h => h) (Or.inl ⟨by rfl, ?_⟩) ?_ ?_
       rotate_left
       ·intro w'
        go_simp
        with_reducible rfl
       rotate_left
       ·simp only [Act.put, List.setIfInBounds_toArray, List.set_cons_zero, List.set_cons_succ, i64_w, i32_w]
        rfl
       refine last_ (i := 7) (N := none) #[true, true, true, true, true, true, true, true] rfl rfl (one_of HT_.out (by kernel_rfl)) (by decide) (fun K hK => ?_)
       have hs20 : w17.cell? ⟨gb316, 0, none⟩ = some (u317000) := (blk_cell BK316.out 0).trans rfl
       have hfs20 := blk_frozen BK316.out 0
       have hns20_0 := NB314_316.out
       have hns20_1 := NB315_316.out
       have hms20_0 := NB316_314.out
       have hms20_1 := NB316_315.out
       refine skip_ (w1 := ?_) (by rfl) rfl ?_ ?_
       rotate_left
       ·go_simp
        rfl
       refine hK.out _ _ ?_
       clear hK K
       refine done_ (done_of HT_.out (by kernel_rfl)) ?_
       try go_wp2
       go_roundg k1
       case measure => have := HK1.out; omega
       case rel => exact ⟨(wrap64 (x10_1 + 1)), (y321), (.slice Ao19 y321.length co19), (by first | rfl | (simp; done) | (simp [*]; done)), H', ⟨by have := HK1.out; omega⟩, ⟨by (with_reducible repeat first | apply ks1_ | apply ks2_ | apply ks3_); exact Kd.S_mono (Kd.S_far (p := ⟨gb316, 0, none⟩) (Kd.S_types HO323.out BK316.out (by decide)) (fun _ hk => hk.2) (.slice Ao19 y321.length co19)) (fun _ hk => trivial)⟩, ⟨by (with_reducible repeat first | apply kb1_ | apply kb2_ | apply kb3_); refine blk_far ?_ NB314_316.out _; (with_reducible repeat first | apply kb1_ | apply kb2_ | apply kb3_); exact BK314.out⟩, ⟨by (with_reducible repeat first | apply kb1_ | apply kb2_ | apply kb3_); refine blk_far ?_ NB315_316.out _; (with_reducible repeat first | apply kb1_ | apply kb2_ | apply kb3_); exact BK315.out⟩, ⟨by (with_reducible repeat first | apply kb1_ | apply kb2_ | apply kb3_); refine blk_put (cs := #[u317000]) ?_ 0 _ rfl; (with_reducible repeat first | apply kb1_ | apply kb2_ | apply kb3_); exact BK316.out⟩, ⟨by repeat (first | (with_reducible first | exact HB.out | apply below_alloc | apply pw_below_drewN | apply below_drew1 | refine below_set ?_ GE314.out | refine below_set ?_ GE315.out | refine below_set ?_ GE316.out) | exact HB.out)⟩⟩
      ·rw [if_neg c14] at H
       exact absurd H (by simp)
     ·rw [if_neg c12] at H
      exact absurd H (by simp)
    ·rw [if_neg c11] at H
     exact absurd H (by simp)
   ·rw [if_neg c10] at H
    have c10b0 : decide (x10_1 < (l0_0.length : Int)) = false := decide_eq_false c10
    clear c10
    obtain rfl := Option.some.inj H
    have hnb21 := NB316_314.out
    have hnc21 := NB314_316.out
    have hnb22 := NB316_315.out
    have hnc22 := NB315_316.out
    have hcz23_0 : wr.cell? ⟨gb316, 0, none⟩ = some (u317000) := (blk_cell BK316.out 0).trans rfl
    have hfz23_0 := blk_frozen BK316.out 0
    obtain ⟨Ao24, co24, eo24⟩ := Kd.S_slice HO_317000.out
    subst eo24
    have hnb25 := NB315_314.out
    have hnc25 := NB314_315.out
    have hcz26_0 : wr.cell? ⟨gb315, 0, none⟩ = some (.slice none 0 0) := (blk_cell BK315.out 0).trans rfl
    have hfz26_0 := blk_frozen BK315.out 0
    go_wp2
    refine bodyPost_ret (results_cell_row rfl _ _ gb315 31 #[.slice Ao24 x317000_1.length co24] (0, 0) _ rfl (by (with_reducible repeat first | apply kb1_ | apply kb2_ | apply kb3_); refine blk_put (cs := #[.slice none 0 0]) ?_ 0 _ rfl; (with_reducible repeat first | apply kb1_ | apply kb2_ | apply kb3_); exact BK315.out) Try.underlying31 rfl (by kernel_rfl)) rfl ?_
    exact ⟨_, er_, by (with_reducible repeat first | apply ks1_ | apply ks2_ | apply ks3_); exact Kd.S_mono (Kd.S_far (p := ⟨gb315, 0, none⟩) (Kd.S_types HO_317000.out BK315.out (by decide)) (fun _ hk => hk.2) (.slice Ao24 x317000_1.length co24)) (fun _ hk => trivial), by repeat (first | (with_reducible first | exact HB.out | apply below_alloc | apply pw_below_drewN | apply below_drew1 | refine below_set ?_ GE314.out | refine below_set ?_ GE315.out | refine below_set ?_ GE316.out) | exact HB.out)⟩
end Go.Proofs.Ytmkcbbbknbahgaa.P
namespace Go.Proofs.Ytmkcbbbknbahgaa.P
open Go.RowKit Go.Proofs.YtmkcbbbknbahgaaW.PrintWords Go.Proofs.YtmkcbbbknbahgaaW.PrintLast Go.Proofs.YtmkcbbbknbahgaaW.PrintMore
attribute [local go_sem] max2_int min2_int max_two min_two max_three min_three max_four min_four   -- for this text's walks alone
set_option linter.unusedVariables false
set_option linter.unusedSimpArgs false

def impl_Arena_own.f (k : Nat) (l0_0 : List (List Int)) (a0_1 : Int) (a0_2 : Int) (a0_3 : Int) (a0_4 : Int) (a0_5 : Int) (l0_6 : List Int) : Option ((List (List Int)) × Int × Int × Int × Int × Int × List Int) := (impl_Memory_own.f k l0_0).bind fun t780 => ((slices_Clone_int.f l0_6).bind fun t783 => (some (t780, a0_1, a0_2, a0_3, a0_4, a0_5, t783)))

def impl_Arena_own.T1 : Bool × List (List Nat × List Nat) := (true, [([], []), ([0], [0]), ([1], [1]), ([], []), ([3], [3]), ([4, 2], [4]), ([0, 1, 2, 3, 4], []), ([6, 2, 5, 0, 1, 2, 3, 4], [2, 6]), ([0, 1, 2, 3, 4, 5, 6, 7], []), ([8, 5, 7, 0, 1, 2, 3, 4, 5, 6, 7], [5, 8])])

def impl_Arena_own.B1 : List Nat := [0, 1, 3, 0, 8, 31, 31, 127, 255, 511]

theorem impl_Arena_own.tab1 : rtab .any (opsOf Try.f110 1) = impl_Arena_own.T1 := by kernel_rfl

theorem impl_Arena_own.bits1 : waitsOk impl_Arena_own.T1.2 impl_Arena_own.B1 = true := by kernel_rfl

set_option maxHeartbeats 8000000 in
set_option maxRecDepth 100000 in
theorem impl_Arena_own.calls (k : Nat) (A0_0 : Option Addr) (c0_0 : Nat) (l0_0 : List (List Int)) (a0_1 : Int) (a0_2 : Int) (a0_3 : Int) (a0_4 : Int) (a0_5 : Int) (A0_6 : Option Addr) (c0_6 : Nat) (l0_6 : List Int) (r1 : List (List Int)) (r2 : Int) (r3 : Int) (r4 : Int) (r5 : Int) (r6 : Int) (r7 : List Int) (w : World) (hr0_0 : Kd.C (Kd.slice 5 (Kd.int .u8)) w A0_0 l0_0.length l0_0) (hc0_0 : l0_0.length ≤ c0_0) (hr0_6 : Kd.C (Kd.int .i64) w A0_6 l0_6.length l0_6) (hc0_6 : l0_6.length ≤ c0_6) (h : impl_Arena_own.f k l0_0 a0_1 a0_2 a0_3 a0_4 a0_5 l0_6 = some (r1, r2, r3, r4, r5, r6, r7)) :
  Calls Try.prog 110 #[.agg #[.slice A0_0 l0_0.length c0_0, .int .i64 a0_1, .int .i64 a0_2, .int .i64 a0_3, .int .i64 a0_4, .int .i64 a0_5, .slice A0_6 l0_6.length c0_6]] w fun e w' => ∃ v0_ v6_ : Value, e = .returned (.agg #[v0_, .int .i64 r2, .int .i64 r3, .int .i64 r4, .int .i64 r5, .int .i64 r6, v6_]) ∧ Kd.S (Kd.slice 5 (Kd.int .u8)) 29 w' w.heap.size (fun _ => True) v0_ r1 ∧ Kd.R (Kd.int .i64) 3 w' w.heap.size (fun _ => True) v6_ r7 ∧ Below w.heap.size w w' := by
 have hu70 := Try.underlying70
 have hu31 := Try.underlying31
 have HR0_0 := Aside0.mk hr0_0
 have HC0_0 := Aside0.mk hc0_0
 clear hr0_0 hc0_0
 have HR0_6 := Aside0.mk hr0_6
 have HC0_6 := Aside0.mk hc0_6
 clear hr0_6 hc0_6
 have HB := Aside0.mk (Below.refl w.heap.size w)
 have H : ((impl_Memory_own.f k l0_0).bind fun t780 => ((slices_Clone_int.f l0_6).bind fun t783 => (some (t780, a0_1, a0_2, a0_3, a0_4, a0_5, t783)))) = some (r1, r2, r3, r4, r5, r6, r7) := h
 clear h
 replace H := Option.bind_eq_some_iff.mp H
 obtain ⟨t780, A20, H⟩ := H
 replace H : ((slices_Clone_int.f l0_6).bind fun t783 => (some (t780, a0_1, a0_2, a0_3, a0_4, a0_5, t783))) = some (r1, r2, r3, r4, r5, r6, r7) := H
 have A2 := Aside0.mk A20
 clear A20
 replace H := Option.bind_eq_some_iff.mp H
 obtain ⟨t783, A30, H⟩ := H
 replace H : (some (t780, a0_1, a0_2, a0_3, a0_4, a0_5, t783)) = some (r1, r2, r3, r4, r5, r6, r7) := H
 have A3 := Aside0.mk A30
 clear A30
 simp only [Option.some.injEq, Prod.mk.injEq] at H
 obtain ⟨rfl, rfl, rfl, rfl, rfl, rfl, rfl⟩ := H
 go_enter Try.func110, Try.ntmps110
 try go_wp2_with (first | ((with_reducible refine gate_dst (N := 1) rfl ?_); refine box_event ?hg (N := 1) ?hd (cs := #[.slice A0_0 l0_0.length c0_0, .int .i64 a0_1, .int .i64 a0_2, .int .i64 a0_3, .int .i64 a0_4, .int .i64 a0_5, .slice A0_6 l0_6.length c0_6]) (t := 70) ?hr ?_; (case hd => rfl); (case hg => rfl); (case hr => exact gs_); intro gb778 hg w4 hbox hb; have BK778 := Aside0.mk (hbox); have GW778 := gE_ HB hg; have GE778 := gE_ HB hg; replace HB := Aside0.mk (below_step (by repeat (first | (with_reducible first | exact HB.out | apply ba_ | apply bn_ | apply bd_) | exact HB.out)) hb); clear hb hbox hg) | ((with_reducible refine gate_dst (N := 2) rfl ?_); refine box_event ?hg (N := 2) ?hd (cs := #[.slice none 0 0, .int .i64 0, .int .i64 0, .int .i64 0, .int .i64 0, .int .i64 0, .slice none 0 0]) (t := 70) ?hr ?_; (case hd => rfl); (case hg => rfl); (case hr => exact gs_); intro gb779 hg w5 hbox hb; have BK779 := Aside0.mk (hbox); have GW779 := gE_ HB hg; have GE779 := gE_ HB hg; replace HB := Aside0.mk (below_step (by repeat (first | (with_reducible first | exact HB.out | apply ba_ | apply bn_ | apply bd_ | refine bset_ ?_ (by assumption)) | exact HB.out)) hb); have NB778_779 := nB_ BK778 hg; have NB779_778 := nA_ BK778 hg; replace BK778 := bB_ BK778 hb; clear hb hbox hg))
 replace BK778 := Aside0.mk (blk_drew BK778.out)
 replace BK779 := Aside0.mk (blk_drew BK779.out)
 replace HB := Aside0.mk (below_drew1 HB.out)
 refine start_ (n := 10) (S := fun w' => w'.cell? ⟨gb778, 0, none⟩ = some (.slice A0_0 l0_0.length c0_0) ∧ w'.cell? ⟨gb778, 1, none⟩ = some (.int .i64 a0_1) ∧ w'.cell? ⟨gb778, 2, none⟩ = some (.int .i64 a0_2) ∧ w'.cell? ⟨gb778, 3, none⟩ = some (.int .i64 a0_3) ∧ w'.cell? ⟨gb778, 4, none⟩ = some (.int .i64 a0_4) ∧ w'.cell? ⟨gb778, 5, none⟩ = some (.int .i64 a0_5) ∧ w'.cell? ⟨gb778, 6, none⟩ = some (.slice A0_6 l0_6.length c0_6)) (ds := [7, 9]) #[false, false, false, false, false, false, false, false, false, false] (by kernel_rfl) rfl rfl ⟨(blk_cell BK778.out 0).trans rfl, (blk_cell BK778.out 1).trans rfl, (blk_cell BK778.out 2).trans rfl, (blk_cell BK778.out 3).trans rfl, (blk_cell BK778.out 4).trans rfl, (blk_cell BK778.out 5).trans rfl, (blk_cell BK778.out 6).trans rfl⟩ (fun hHeld => ?_); refine with_tabW impl_Arena_own.tab1 impl_Arena_own.bits1 (fun HT_ HW_ => ?_)
 generalize w5.drew = w6 at BK778 BK779 HB hHeld ⊢
 refine pure_ (i := 0) (N := some 3) (v := ?_) (a' := ?_) #[true, false, false, false, false, false, false, false, false, false] rfl rfl (any_of HT_.out (by kernel_rfl)) (fun _ _ _ h => h) (Or.inl ⟨by rfl, ?_⟩) ?_ ?_
 rotate_left
 ·intro w'
  go_simp
  with_reducible rfl
 rotate_left
 ·simp only [Act.put, List.setIfInBounds_toArray, List.set_cons_zero, List.set_cons_succ, i64_w, i32_w]
  rfl
 refine pure_ (i := 3) (N := some 6) (v := ?_) (a' := ?_) #[true, false, false, true, false, false, false, false, false, false] rfl rfl (any_of HT_.out (by kernel_rfl)) (fun _ _ _ h => h) (Or.inl ⟨by rfl, ?_⟩) ?_ ?_
 rotate_left
 ·intro w'
  go_simp
  with_reducible rfl
 rotate_left
 ·simp only [Act.put, List.setIfInBounds_toArray, List.set_cons_zero, List.set_cons_succ, i64_w, i32_w]
  rfl
 refine take_ (i := 1) (N := some 4) (v := ?_) (a' := ?_) #[true, true, false, true, false, false, false, false, false, false] rfl rfl (take_ofW HT_.out HW_.out (by kernel_rfl)) (fun _ _ _ h => h) (Or.inl ⟨by rfl, ?_⟩) hHeld ?_ ?_
 rotate_left
 ·rintro w' ⟨s0, s1, s2, s3, s4, s5, s6⟩
  go_simp
  with_reducible rfl
 rotate_left
 ·simp only [Act.put, List.setIfInBounds_toArray, List.set_cons_zero, List.set_cons_succ, i64_w, i32_w]
  rfl
 refine take_ (i := 4) (N := some 7) (v := ?_) (a' := ?_) #[true, true, false, true, true, false, false, false, false, false] rfl rfl (take_ofW HT_.out HW_.out (by kernel_rfl)) (fun _ _ _ h => h) (Or.inl ⟨by rfl, ?_⟩) hHeld ?_ ?_
 rotate_left
 ·rintro w' ⟨s0, s1, s2, s3, s4, s5, s6⟩
  go_simp
  with_reducible rfl
 rotate_left
 ·simp only [Act.put, List.setIfInBounds_toArray, List.set_cons_zero, List.set_cons_succ, i64_w, i32_w]
  rfl
 refine one_ (i := 2) (N := some 5) #[true, true, true, true, true, false, false, false, false, false] rfl rfl (one_of HT_.out (by kernel_rfl)) (by decide) (fun K hK => ?_)
 refine goes_ Try.func127 (by kernel_rfl) rfl #[.agg #[.slice A0_0 l0_0.length c0_0]] (by rfl) rfl rfl ar_ ?_
 with_reducible refine (impl_Memory_own.calls k _ _ l0_0 t780 _ ?side1 ?side2 A2.out).mono ?_
 (case side1 => repeat (first | exact (Kd.C_below HR0_0.out HB.out) | (with_reducible refine Kd.C_alloc ?_ _) | (with_reducible refine Kd.C_drewN ?_ _) | (with_reducible refine Kd.C_drew ?_)))
 (case side2 => exact HC0_0.out)
 rintro e w7 ⟨v781, rfl, ho0, hb⟩
 refine ⟨_, rfl, ?_⟩
 have HO782 := Aside0.mk (sL_ ho0 HB)
 replace BK778 := bB_ BK778 hb
 replace BK779 := bB_ BK779 hb
 replace HB := Aside0.mk (below_step (by repeat (first | (with_reducible first | exact HB.out | apply ba_ | apply bn_ | apply bd_ | refine bset_ ?_ (by assumption)) | exact HB.out)) hb)
 (try clear hb)
 (try clear hb2)
 (try clear hk)
 (try clear hi)
 (try clear ho0)
 refine hK.out _ _ ⟨(blk_cell BK778.out 0).trans rfl, (blk_cell BK778.out 1).trans rfl, (blk_cell BK778.out 2).trans rfl, (blk_cell BK778.out 3).trans rfl, (blk_cell BK778.out 4).trans rfl, (blk_cell BK778.out 5).trans rfl, (blk_cell BK778.out 6).trans rfl⟩ (fun hHeld => ?_)
 clear hK K
 refine norm_ (a' := ?_) ?_ ?_
 rotate_left
 ·show Act.put _ (some 5) _ = _
  simp only [Act.put, List.setIfInBounds_toArray, List.set_cons_zero, List.set_cons_succ, i64_w, i32_w]
  rfl
 refine pure_ (i := 6) (N := some 9) (v := ?_) (a' := ?_) #[true, true, true, true, true, false, true, false, false, false] rfl rfl (any_of HT_.out (by kernel_rfl)) (fun _ _ _ h => h) (Or.inl ⟨by rfl, ?_⟩) ?_ ?_
 rotate_left
 ·intro w'
  go_simp
  with_reducible rfl
 rotate_left
 ·simp only [Act.put, List.setIfInBounds_toArray, List.set_cons_zero, List.set_cons_succ, i64_w, i32_w]
  rfl
 refine one_ (i := 5) (N := some 8) #[true, true, true, true, true, true, true, false, false, false] rfl rfl (one_of HT_.out (by kernel_rfl)) (by decide) (fun K hK => ?_)
 refine goes_ Try.func156 (by kernel_rfl) rfl #[.slice A0_6 l0_6.length c0_6] (by rfl) rfl rfl ar_ ?_
 with_reducible refine (slices_Clone_int.calls _ _ l0_6 t783 _ ?side1 ?side2 A3.out).mono ?_
 (case side1 => repeat (first | exact (Kd.C_below HR0_6.out HB.out) | (with_reducible refine Kd.C_alloc ?_ _) | (with_reducible refine Kd.C_drewN ?_ _) | (with_reducible refine Kd.C_drew ?_)))
 (case side2 => exact HC0_6.out)
 rintro e w8 ⟨v784, rfl, ho0, hb⟩
 refine ⟨_, rfl, ?_⟩
 replace HO782 := Aside0.mk (Kd.S_below (sK_ HO782) hb)
 have HO785 := Aside0.mk (rL_ ho0 HB)
 replace BK778 := bB_ BK778 hb
 replace BK779 := bB_ BK779 hb
 replace HB := Aside0.mk (below_step (by repeat (first | (with_reducible first | exact HB.out | apply ba_ | apply bn_ | apply bd_ | refine bset_ ?_ (by assumption)) | exact HB.out)) hb)
 (try clear hb)
 (try clear hb2)
 (try clear hk)
 (try clear hi)
 (try clear ho0)
 obtain ⟨Ao9, co9, eo9⟩ := Kd.S_slice HO782.out
 (first | subst eo9 | (injection eo9 with f1_ f2_ f3_; have f4_ := f1_.symm; have f5_ := f3_.symm; clear f1_ f2_ f3_; subst f4_; subst f5_))
 obtain ⟨Ao11, co11, eo11⟩ := Kd.R_slice HO785.out
 (first | subst eo11 | (injection eo11 with f1_ f2_ f3_; have f4_ := f1_.symm; have f5_ := f3_.symm; clear f1_ f2_ f3_; subst f4_; subst f5_))
 refine hK.out _ _ ⟨(blk_cell BK778.out 0).trans rfl, (blk_cell BK778.out 1).trans rfl, (blk_cell BK778.out 2).trans rfl, (blk_cell BK778.out 3).trans rfl, (blk_cell BK778.out 4).trans rfl, (blk_cell BK778.out 5).trans rfl, (blk_cell BK778.out 6).trans rfl⟩ (fun hHeld => ?_)
 clear hK K
 refine norm_ (a' := ?_) ?_ ?_
 rotate_left
 ·show Act.put _ (some 8) _ = _
  simp only [Act.put, List.setIfInBounds_toArray, List.set_cons_zero, List.set_cons_succ, i64_w, i32_w]
  rfl
 refine last_ (i := 7) (N := none) #[true, true, true, true, true, true, true, true, false, false] rfl rfl (one_of HT_.out (by kernel_rfl)) (by decide) (fun K hK => ?_)
 have hs10 : w8.cell? ⟨gb778, 0, none⟩ = some (.slice A0_0 l0_0.length c0_0) := (blk_cell BK778.out 0).trans rfl
 have hfs10 := blk_frozen BK778.out 0
 have hns10_1 := NB779_778.out
 have hms10_1 := NB778_779.out
 refine skip_ (w1 := ?_) (by rfl) rfl ?_ ?_
 rotate_left
 ·go_simp
  rfl
 refine hK.out _ _ ?_
 clear hK K
 refine pure_ (i := 8) (N := some 10) (v := ?_) (a' := ?_) #[true, true, true, true, true, true, true, true, true, false] rfl rfl (any_of HT_.out (by kernel_rfl)) (fun _ _ _ h => h) (Or.inl ⟨by rfl, ?_⟩) ?_ ?_
 rotate_left
 ·intro w'
  go_simp
  with_reducible rfl
 rotate_left
 ·simp only [Act.put, List.setIfInBounds_toArray, List.set_cons_zero, List.set_cons_succ, i64_w, i32_w]
  rfl
 refine last_ (i := 9) (N := none) #[true, true, true, true, true, true, true, true, true, true] rfl rfl (one_of HT_.out (by kernel_rfl)) (by decide) (fun K hK => ?_)
 have hs12 : w8.cell? ⟨gb778, 6, none⟩ = some (.slice A0_6 l0_6.length c0_6) := (blk_cell BK778.out 6).trans rfl
 have hfs12 := blk_frozen BK778.out 6
 have hns12_1 := NB779_778.out
 have hms12_1 := NB778_779.out
 first | (generalize hW9_ : World.setCell _ _ _ = W9_; refine skip_ (w1 := ?_) (by rfl) rfl ?_ ?_ <;> subst hW9_) | refine skip_ (w1 := ?_) (by rfl) rfl ?_ ?_
 rotate_left
 ·go_simp
  rfl
 refine hK.out _ _ ?_
 clear hK K
 refine done_ (done_of HT_.out (by kernel_rfl)) ?_
 have hnb13 := NB778_779.out
 have hnc13 := NB779_778.out
 have hcz14_0 : w8.cell? ⟨gb778, 0, none⟩ = some (.slice A0_0 l0_0.length c0_0) := (blk_cell BK778.out 0).trans rfl
 have hcz14_1 : w8.cell? ⟨gb778, 1, none⟩ = some (.int .i64 a0_1) := (blk_cell BK778.out 1).trans rfl
 have hcz14_2 : w8.cell? ⟨gb778, 2, none⟩ = some (.int .i64 a0_2) := (blk_cell BK778.out 2).trans rfl
 have hcz14_3 : w8.cell? ⟨gb778, 3, none⟩ = some (.int .i64 a0_3) := (blk_cell BK778.out 3).trans rfl
 have hcz14_4 : w8.cell? ⟨gb778, 4, none⟩ = some (.int .i64 a0_4) := (blk_cell BK778.out 4).trans rfl
 have hcz14_5 : w8.cell? ⟨gb778, 5, none⟩ = some (.int .i64 a0_5) := (blk_cell BK778.out 5).trans rfl
 have hcz14_6 : w8.cell? ⟨gb778, 6, none⟩ = some (.slice A0_6 l0_6.length c0_6) := (blk_cell BK778.out 6).trans rfl
 have hfz14_0 := blk_frozen BK778.out 0
 have hfz14_1 := blk_frozen BK778.out 1
 have hfz14_2 := blk_frozen BK778.out 2
 have hfz14_3 := blk_frozen BK778.out 3
 have hfz14_4 := blk_frozen BK778.out 4
 have hfz14_5 := blk_frozen BK778.out 5
 have hfz14_6 := blk_frozen BK778.out 6
 have hcz15_0 : w8.cell? ⟨gb779, 0, none⟩ = some (.slice none 0 0) := (blk_cell BK779.out 0).trans rfl
 have hcz15_1 : w8.cell? ⟨gb779, 1, none⟩ = some (.int .i64 0) := (blk_cell BK779.out 1).trans rfl
 have hcz15_2 : w8.cell? ⟨gb779, 2, none⟩ = some (.int .i64 0) := (blk_cell BK779.out 2).trans rfl
 have hcz15_3 : w8.cell? ⟨gb779, 3, none⟩ = some (.int .i64 0) := (blk_cell BK779.out 3).trans rfl
 have hcz15_4 : w8.cell? ⟨gb779, 4, none⟩ = some (.int .i64 0) := (blk_cell BK779.out 4).trans rfl
 have hcz15_5 : w8.cell? ⟨gb779, 5, none⟩ = some (.int .i64 0) := (blk_cell BK779.out 5).trans rfl
 have hcz15_6 : w8.cell? ⟨gb779, 6, none⟩ = some (.slice none 0 0) := (blk_cell BK779.out 6).trans rfl
 have hfz15_0 := blk_frozen BK779.out 0
 have hfz15_1 := blk_frozen BK779.out 1
 have hfz15_2 := blk_frozen BK779.out 2
 have hfz15_3 := blk_frozen BK779.out 3
 have hfz15_4 := blk_frozen BK779.out 4
 have hfz15_5 := blk_frozen BK779.out 5
 have hfz15_6 := blk_frozen BK779.out 6
 try go_wp2
 refine bodyPost_ret (results_cell_row rfl _ _ gb779 70 #[.slice Ao9 t780.length co9, .int .i64 a0_1, .int .i64 a0_2, .int .i64 a0_3, .int .i64 a0_4, .int .i64 a0_5, .slice Ao11 t783.length co11] (0, 0) _ rfl (by (with_reducible repeat first | apply kb1_ | apply kb2_ | apply kb3_); refine blk_put (cs := #[.slice Ao9 t780.length co9, .int .i64 a0_1, .int .i64 a0_2, .int .i64 a0_3, .int .i64 a0_4, .int .i64 a0_5, .slice none 0 0]) ?_ 6 _ rfl; (with_reducible repeat first | apply kb1_ | apply kb2_ | apply kb3_); refine blk_put (cs := #[.slice Ao9 t780.length co9, .int .i64 a0_1, .int .i64 a0_2, .int .i64 a0_3, .int .i64 a0_4, .int .i64 0, .slice none 0 0]) ?_ 5 _ rfl; (with_reducible repeat first | apply kb1_ | apply kb2_ | apply kb3_); refine blk_put (cs := #[.slice Ao9 t780.length co9, .int .i64 a0_1, .int .i64 a0_2, .int .i64 a0_3, .int .i64 0, .int .i64 0, .slice none 0 0]) ?_ 4 _ rfl; (with_reducible repeat first | apply kb1_ | apply kb2_ | apply kb3_); refine blk_put (cs := #[.slice Ao9 t780.length co9, .int .i64 a0_1, .int .i64 a0_2, .int .i64 0, .int .i64 0, .int .i64 0, .slice none 0 0]) ?_ 3 _ rfl; (with_reducible repeat first | apply kb1_ | apply kb2_ | apply kb3_); refine blk_put (cs := #[.slice Ao9 t780.length co9, .int .i64 a0_1, .int .i64 0, .int .i64 0, .int .i64 0, .int .i64 0, .slice none 0 0]) ?_ 2 _ rfl; (with_reducible repeat first | apply kb1_ | apply kb2_ | apply kb3_); refine blk_put (cs := #[.slice Ao9 t780.length co9, .int .i64 0, .int .i64 0, .int .i64 0, .int .i64 0, .int .i64 0, .slice none 0 0]) ?_ 1 _ rfl; (with_reducible repeat first | apply kb1_ | apply kb2_ | apply kb3_); refine blk_put (cs := #[.slice none 0 0, .int .i64 0, .int .i64 0, .int .i64 0, .int .i64 0, .int .i64 0, .slice none 0 0]) ?_ 0 _ rfl; (with_reducible repeat first | apply kb1_ | apply kb2_ | apply kb3_); refine blk_far ?_ NB779_778.out _; (with_reducible repeat first | apply kb1_ | apply kb2_ | apply kb3_); refine blk_far ?_ NB779_778.out _; (with_reducible repeat first | apply kb1_ | apply kb2_ | apply kb3_); exact BK779.out) Try.underlying70 rfl (by kernel_rfl)) rfl ?_
 exact ⟨_, _, er_, by (with_reducible repeat first | apply ks1_ | apply ks2_ | apply ks3_); exact Kd.S_mono (Kd.S_far (p := ⟨gb779, 6, none⟩) (Kd.S_far (p := ⟨gb779, 5, none⟩) (Kd.S_far (p := ⟨gb779, 4, none⟩) (Kd.S_far (p := ⟨gb779, 3, none⟩) (Kd.S_far (p := ⟨gb779, 2, none⟩) (Kd.S_far (p := ⟨gb779, 1, none⟩) (Kd.S_far (p := ⟨gb779, 0, none⟩) (Kd.S_far (p := ⟨gb778, 6, none⟩) (Kd.S_far (p := ⟨gb778, 0, none⟩) (Kd.S_types (Kd.S_types HO782.out BK778.out (by decide)) BK779.out (by decide)) (fun _ hk => hk.1.2) (.slice Ao9 t780.length co9)) (fun _ hk => hk.1.2) (.slice Ao11 t783.length co11)) (fun _ hk => hk.2) (.slice Ao9 t780.length co9)) (fun _ hk => hk.2) (.int .i64 a0_1)) (fun _ hk => hk.2) (.int .i64 a0_2)) (fun _ hk => hk.2) (.int .i64 a0_3)) (fun _ hk => hk.2) (.int .i64 a0_4)) (fun _ hk => hk.2) (.int .i64 a0_5)) (fun _ hk => hk.2) (.slice Ao11 t783.length co11)) (fun _ hk => trivial), by (with_reducible repeat first | apply kr1_ | apply kr2_ | apply kr3_); exact Kd.R_mono (Kd.R_far (p := ⟨gb779, 6, none⟩) (Kd.R_far (p := ⟨gb779, 5, none⟩) (Kd.R_far (p := ⟨gb779, 4, none⟩) (Kd.R_far (p := ⟨gb779, 3, none⟩) (Kd.R_far (p := ⟨gb779, 2, none⟩) (Kd.R_far (p := ⟨gb779, 1, none⟩) (Kd.R_far (p := ⟨gb779, 0, none⟩) (Kd.R_far (p := ⟨gb778, 6, none⟩) (Kd.R_far (p := ⟨gb778, 0, none⟩) (Kd.R_types (Kd.R_types HO785.out BK778.out (by decide)) BK779.out (by decide)) (fun _ hk => hk.1.2) (.slice Ao9 t780.length co9)) (fun _ hk => hk.1.2) (.slice Ao11 t783.length co11)) (fun _ hk => hk.2) (.slice Ao9 t780.length co9)) (fun _ hk => hk.2) (.int .i64 a0_1)) (fun _ hk => hk.2) (.int .i64 a0_2)) (fun _ hk => hk.2) (.int .i64 a0_3)) (fun _ hk => hk.2) (.int .i64 a0_4)) (fun _ hk => hk.2) (.int .i64 a0_5)) (fun _ hk => hk.2) (.slice Ao11 t783.length co11)) (fun _ hk => trivial), by repeat (first | (with_reducible first | exact HB.out | apply below_alloc | apply pw_below_drewN | apply below_drew1 | refine below_set ?_ GE778.out | refine below_set ?_ GE779.out) | exact HB.out)⟩
end Go.Proofs.Ytmkcbbbknbahgaa.P
namespace Go.Proofs.Ytmkcbbbknbahgaa.P
open Go.RowKit Go.Proofs.YtmkcbbbknbahgaaW.PrintWords Go.Proofs.YtmkcbbbknbahgaaW.PrintLast Go.Proofs.YtmkcbbbknbahgaaW.PrintMore
set_option linter.unusedVariables false
set_option linter.unusedSimpArgs false

def impl_GiveAll.f (k : Nat) (l0_0 : List (List Int)) (a0_1 : Int) (a0_2 : Int) (a0_3 : Int) (a0_4 : Int) (a0_5 : Int) (l0_6 : List Int) (l1 : List S74) : Option ((List (List Int)) × Int × Int × Int × Int × Int × List Int × List S32 × Bool) :=
  (impl_areAsked.f k l0_0 a0_1 a0_2 a0_3 a0_4 a0_5 l0_6 l1).bind fun t => if t = true then ((impl_Arena_own.f k l0_0 a0_1 a0_2 a0_3 a0_4 a0_5 l0_6).bind fun o => if (∀ q ∈ l1, q.f1 ≠ 0) ∧ l1.length ≤ 1048576 then (if (giveRun a0_1 a0_2 a0_3 l1 a0_5 []).2.2 = true then some (o.1, a0_1, a0_2, a0_3, a0_4, (giveRun a0_1 a0_2 a0_3 l1 a0_5 []).1, o.2.2.2.2.2.2, (giveRun a0_1 a0_2 a0_3 l1 a0_5 []).2.1, true) else some ([], 0, 0, 0, 0, 0, [], [], false)) else none) else some ([], 0, 0, 0, 0, 0, [], [], false)

set_option maxHeartbeats 8000000 in
set_option maxRecDepth 100000 in
theorem impl_GiveAll.calls (k : Nat) (A0_0 : Option Addr) (c0_0 : Nat) (l0_0 : List (List Int)) (a0_1 : Int) (a0_2 : Int) (a0_3 : Int) (a0_4 : Int) (a0_5 : Int) (A0_6 : Option Addr) (c0_6 : Nat) (l0_6 : List Int) (A1 : Option Addr) (c1 : Nat) (l1 : List S74) (r1 : List (List Int)) (r2 : Int) (r3 : Int) (r4 : Int) (r5 : Int) (r6 : Int) (r7 : List Int) (r8 : List S32) (r9 : Bool) (w : World) (hr0_0 : Kd.C (Kd.slice 5 (Kd.int .u8)) w A0_0 l0_0.length l0_0) (hc0_0 : l0_0.length ≤ c0_0) (hr0_6 : Kd.C (Kd.int .i64) w A0_6 l0_6.length l0_6) (hc0_6 : l0_6.length ≤ c0_6) (hr1 : Kd.C k74 w A1 l1.length l1) (hc1 : l1.length ≤ c1) (h : impl_GiveAll.f k l0_0 a0_1 a0_2 a0_3 a0_4 a0_5 l0_6 l1 = some (r1, r2, r3, r4, r5, r6, r7, r8, r9)) :
    Calls Try.prog 49 #[.agg #[(.slice A0_0 l0_0.length c0_0), (.int .i64 a0_1), (.int .i64 a0_2), (.int .i64 a0_3), (.int .i64 a0_4), (.int .i64 a0_5), (.slice A0_6 l0_6.length c0_6)], .slice A1 l1.length c1] w fun e w' => ∃ v0_ v6_ v7_ : Value, e = .returned (.tuple #[.agg #[v0_, .int .i64 r2, .int .i64 r3, .int .i64 r4, .int .i64 r5, .int .i64 r6, v6_], v7_, .bool r9]) ∧ Kd.S (Kd.slice 5 (Kd.int .u8)) 29 w' w.heap.size (fun _ => True) v0_ r1 ∧ Kd.R (Kd.int .i64) 3 w' w.heap.size (fun _ => True) v6_ r7 ∧ Kd.R k32 32 w' w.heap.size (fun _ => True) v7_ r8 ∧ Below w.heap.size w w' := by
  have hu1 := Try.underlying70
  obtain ⟨t, ht, h⟩ := Option.bind_eq_some_iff.mp (show (impl_areAsked.f k l0_0 a0_1 a0_2 a0_3 a0_4 a0_5 l0_6 l1).bind _ = _ from h)
  have HR0 := Aside0.mk hr0_0
  have HC0 := Aside0.mk hc0_0
  have HR6 := Aside0.mk hr0_6
  have HC6 := Aside0.mk hc0_6
  have HR1 := Aside0.mk hr1
  have HC1 := Aside0.mk hc1
  have HT := Aside0.mk ht
  have HH := Aside0.mk h
  clear hr0_0 hc0_0 hr0_6 hc0_6 hr1 hc1 ht h
  have HA1 := Below.alloc (Below.refl w.heap.size w) (Nat.le_refl _) (.cells #[(.slice A0_0 l0_0.length c0_0), (.int .i64 a0_1), (.int .i64 a0_2), (.int .i64 a0_3), (.int .i64 a0_4), (.int .i64 a0_5), (.slice A0_6 l0_6.length c0_6)] 70)
  have HA2 := Below.alloc (Below.refl (w.alloc (.cells #[(.slice A0_0 l0_0.length c0_0), (.int .i64 a0_1), (.int .i64 a0_2), (.int .i64 a0_3), (.int .i64 a0_4), (.int .i64 a0_5), (.slice A0_6 l0_6.length c0_6)] 70)).heap.size (w.alloc (.cells #[(.slice A0_0 l0_0.length c0_0), (.int .i64 a0_1), (.int .i64 a0_2), (.int .i64 a0_3), (.int .i64 a0_4), (.int .i64 a0_5), (.slice A0_6 l0_6.length c0_6)] 70))) (Nat.le_refl _) (.cells #[(.slice none 0 0), (.int .i64 0), (.int .i64 0), (.int .i64 0), (.int .i64 0), (.int .i64 0), (.slice none 0 0)] 70)
  have BK1 := Aside0.mk (blk_below (heap_alloc_new w (.cells #[(.slice A0_0 l0_0.length c0_0), (.int .i64 a0_1), (.int .i64 a0_2), (.int .i64 a0_3), (.int .i64 a0_4), (.int .i64 a0_5), (.slice A0_6 l0_6.length c0_6)] 70)) HA2)
  have BK2 := Aside0.mk (heap_alloc_new (w.alloc (.cells #[(.slice A0_0 l0_0.length c0_0), (.int .i64 a0_1), (.int .i64 a0_2), (.int .i64 a0_3), (.int .i64 a0_4), (.int .i64 a0_5), (.slice A0_6 l0_6.length c0_6)] 70)) (.cells #[(.slice none 0 0), (.int .i64 0), (.int .i64 0), (.int .i64 0), (.int .i64 0), (.int .i64 0), (.slice none 0 0)] 70))
  have HB := Aside0.mk (below_step HA1 HA2)
  rw [show (w.alloc (.cells #[(.slice A0_0 l0_0.length c0_0), (.int .i64 a0_1), (.int .i64 a0_2), (.int .i64 a0_3), (.int .i64 a0_4), (.int .i64 a0_5), (.slice A0_6 l0_6.length c0_6)] 70)).heap.size = w.heap.size + 1 by simp] at *
  clear HA1 HA2
  go_enter Try.func49, Try.ntmps49
  go_wp2_with fail
  refine (impl_areAsked.calls k A0_0 c0_0 l0_0 a0_1 a0_2 a0_3 a0_4 a0_5 A0_6 c0_6 l0_6 A1 c1 l1 t _ (Kd.C_below HR0.out HB.out) HC0.out (Kd.C_below HR6.out HB.out) HC6.out (Kd.C_below HR1.out HB.out) HC1.out HT.out).mono ?_
  rintro e w1 ⟨rfl, hb⟩
  replace BK1 := Aside0.mk (blk_below BK1.out hb)
  replace BK2 := Aside0.mk (blk_below BK2.out hb)
  have Z1 := Aside0.mk (show w.heap.size + 2 ≤ w1.heap.size by have := below_size hb; simpa using this)
  replace HB := Aside0.mk (below_step HB.out hb)
  clear hb HT
  cases t with
  | false =>
    have h1 := HH.out
    rw [if_neg (by decide)] at h1
    simp only [Option.some.injEq, Prod.mk.injEq] at h1
    obtain ⟨rfl, rfl, rfl, rfl, rfl, rfl, rfl, rfl, rfl⟩ := h1
    have z0 : w1.cell? ⟨w.heap.size + 1, 0, none⟩ = some (.slice none 0 0) := (blk_cell BK2.out 0).trans rfl
    have z1 : w1.cell? ⟨w.heap.size + 1, 1, none⟩ = some (.int .i64 0) := (blk_cell BK2.out 1).trans rfl
    have z2 : w1.cell? ⟨w.heap.size + 1, 2, none⟩ = some (.int .i64 0) := (blk_cell BK2.out 2).trans rfl
    have z3 : w1.cell? ⟨w.heap.size + 1, 3, none⟩ = some (.int .i64 0) := (blk_cell BK2.out 3).trans rfl
    have z4 : w1.cell? ⟨w.heap.size + 1, 4, none⟩ = some (.int .i64 0) := (blk_cell BK2.out 4).trans rfl
    have z5 : w1.cell? ⟨w.heap.size + 1, 5, none⟩ = some (.int .i64 0) := (blk_cell BK2.out 5).trans rfl
    have z6 : w1.cell? ⟨w.heap.size + 1, 6, none⟩ = some (.slice none 0 0) := (blk_cell BK2.out 6).trans rfl
    have zf0 := blk_frozen BK2.out 0
    have zf1 := blk_frozen BK2.out 1
    have zf2 := blk_frozen BK2.out 2
    have zf3 := blk_frozen BK2.out 3
    have zf4 := blk_frozen BK2.out 4
    have zf5 := blk_frozen BK2.out 5
    have zf6 := blk_frozen BK2.out 6
    have zl := blk_lt BK2.out
    go_wp2_with fail
    refine bodyPost_ret (results_ctt rfl _ _ (w.heap.size + 1) 70 #[(.slice none 0 0), (.int .i64 0), (.int .i64 0), (.int .i64 0), (.int .i64 0), (.int .i64 0), (.slice none 0 0)] (0, 0) _ rfl (by (with_reducible repeat (first | refine blk_drewN ?_ _ | refine blk_drew ?_ | refine blk_alloc ?_ _)); refine blk_put (cs := #[(.slice none 0 0), (.int .i64 0), (.int .i64 0), (.int .i64 0), (.int .i64 0), (.int .i64 0), (.slice none 0 0)]) ?_ 6 _ rfl; (with_reducible repeat (first | refine blk_drewN ?_ _ | refine blk_drew ?_ | refine blk_alloc ?_ _)); refine blk_put (cs := #[(.slice none 0 0), (.int .i64 0), (.int .i64 0), (.int .i64 0), (.int .i64 0), (.int .i64 0), (.slice none 0 0)]) ?_ 5 _ rfl; (with_reducible repeat (first | refine blk_drewN ?_ _ | refine blk_drew ?_ | refine blk_alloc ?_ _)); refine blk_put (cs := #[(.slice none 0 0), (.int .i64 0), (.int .i64 0), (.int .i64 0), (.int .i64 0), (.int .i64 0), (.slice none 0 0)]) ?_ 4 _ rfl; (with_reducible repeat (first | refine blk_drewN ?_ _ | refine blk_drew ?_ | refine blk_alloc ?_ _)); refine blk_put (cs := #[(.slice none 0 0), (.int .i64 0), (.int .i64 0), (.int .i64 0), (.int .i64 0), (.int .i64 0), (.slice none 0 0)]) ?_ 3 _ rfl; (with_reducible repeat (first | refine blk_drewN ?_ _ | refine blk_drew ?_ | refine blk_alloc ?_ _)); refine blk_put (cs := #[(.slice none 0 0), (.int .i64 0), (.int .i64 0), (.int .i64 0), (.int .i64 0), (.int .i64 0), (.slice none 0 0)]) ?_ 2 _ rfl; (with_reducible repeat (first | refine blk_drewN ?_ _ | refine blk_drew ?_ | refine blk_alloc ?_ _)); refine blk_put (cs := #[(.slice none 0 0), (.int .i64 0), (.int .i64 0), (.int .i64 0), (.int .i64 0), (.int .i64 0), (.slice none 0 0)]) ?_ 1 _ rfl; (with_reducible repeat (first | refine blk_drewN ?_ _ | refine blk_drew ?_ | refine blk_alloc ?_ _)); refine blk_put (cs := #[(.slice none 0 0), (.int .i64 0), (.int .i64 0), (.int .i64 0), (.int .i64 0), (.int .i64 0), (.slice none 0 0)]) ?_ 0 _ rfl; (with_reducible repeat (first | refine blk_drewN ?_ _ | refine blk_drew ?_ | refine blk_alloc ?_ _)); exact BK2.out) Try.underlying70 rfl (by kernel_rfl)) rfl ?_
    exact ⟨_, _, _, rfl, Kd.S_nil _ _ _ _ _, Kd.R_nil _ _ _ _ _, Kd.R_nil _ _ _ _ _, by repeat (first | (with_reducible first | exact HB.out | refine below_set ?_ (Nat.le_succ _) | apply below_alloc | apply pw_below_drewN | apply below_drew1) | exact HB.out)⟩
  | true =>
    have h1 := HH.out
    rw [if_pos rfl] at h1
    obtain ⟨⟨m, o2, o3, o4, o5, o6, o7⟩, ho, h1⟩ := Option.bind_eq_some_iff.mp h1
    have ho' := ho
    unfold impl_Arena_own.f at ho'
    obtain ⟨q1, _, ho'⟩ := Option.bind_eq_some_iff.mp ho'
    obtain ⟨q2, _, ho'⟩ := Option.bind_eq_some_iff.mp ho'
    simp only [Option.some.injEq, Prod.mk.injEq] at ho'
    obtain ⟨_, e2, e3, e4, e5, e6, _⟩ := ho'
    subst e2 e3 e4 e5 e6
    have HO := Aside0.mk ho
    by_cases hok : (∀ q ∈ l1, q.f1 ≠ 0) ∧ l1.length ≤ 1048576
    · rw [if_pos hok] at h1
      clear HH ho
      have y0 : w1.cell? ⟨w.heap.size, 0, none⟩ = some (.slice A0_0 l0_0.length c0_0) := (blk_cell BK1.out 0).trans rfl
      have y1 : w1.cell? ⟨w.heap.size, 1, none⟩ = some (.int .i64 a0_1) := (blk_cell BK1.out 1).trans rfl
      have y2 : w1.cell? ⟨w.heap.size, 2, none⟩ = some (.int .i64 a0_2) := (blk_cell BK1.out 2).trans rfl
      have y3 : w1.cell? ⟨w.heap.size, 3, none⟩ = some (.int .i64 a0_3) := (blk_cell BK1.out 3).trans rfl
      have y4 : w1.cell? ⟨w.heap.size, 4, none⟩ = some (.int .i64 a0_4) := (blk_cell BK1.out 4).trans rfl
      have y5 : w1.cell? ⟨w.heap.size, 5, none⟩ = some (.int .i64 a0_5) := (blk_cell BK1.out 5).trans rfl
      have y6 : w1.cell? ⟨w.heap.size, 6, none⟩ = some (.slice A0_6 l0_6.length c0_6) := (blk_cell BK1.out 6).trans rfl
      have zl := blk_lt BK1.out
      go_wp2_with fail
      clear y0 y1 y2 y3 y4 y5 y6 zl
      refine (impl_Arena_own.calls k A0_0 c0_0 l0_0 a0_1 a0_2 a0_3 a0_4 a0_5 A0_6 c0_6 l0_6 m a0_1 a0_2 a0_3 a0_4 a0_5 o7 _ (Kd.C_below HR0.out HB.out) HC0.out (Kd.C_below HR6.out HB.out) HC6.out HO.out).mono ?_
      rintro e w2 ⟨v0, v6, rfl, hS, hR, hb⟩
      replace BK1 := Aside0.mk (blk_below BK1.out hb)
      replace BK2 := Aside0.mk (blk_below BK2.out hb)
      obtain ⟨A, c, rfl⟩ := Kd.S_slice hS
      obtain ⟨A7, c7, rfl⟩ := Kd.R_slice hR
      have hlow := below_size HB.out
      have HS := Aside0.mk (Kd.S_lower (Kd.S_mono hS (fun _ _ => trivial)) hlow)
      have HR := Aside0.mk (Kd.R_lower (Kd.R_mono hR (fun _ _ => trivial)) hlow)
      replace HB := Aside0.mk (below_step HB.out hb)
      have Z2 := Aside0.mk (below_size hb)
      clear hS hR hb hlow
      go_wp2_with fail
      have HA4 := Below.alloc (Below.refl w2.heap.size w2) (Nat.le_refl _) (.cells #[(.slice A m.length c), (.int .i64 a0_1), (.int .i64 a0_2), (.int .i64 a0_3), (.int .i64 a0_4), (.int .i64 a0_5), (.slice A7 o7.length c7)] 70)
      replace BK1 := Aside0.mk (blk_below BK1.out HA4)
      replace BK2 := Aside0.mk (blk_below BK2.out HA4)
      have BK4 := heap_alloc_new w2 (.cells #[(.slice A m.length c), (.int .i64 a0_1), (.int .i64 a0_2), (.int .i64 a0_3), (.int .i64 a0_4), (.int .i64 a0_5), (.slice A7 o7.length c7)] 70)
      replace HS := Aside0.mk (Kd.S_elderB HS.out w2.heap.size (Nat.le_refl _))
      replace HR := Aside0.mk (Kd.R_elderB HR.out w2.heap.size (Nat.le_refl _))
      replace HS := Aside0.mk (Kd.S_below HS.out HA4)
      replace HR := Aside0.mk (Kd.R_below HR.out HA4)
      replace HB := Aside0.mk (below_step HB.out HA4)
      have Z3 := Aside0.mk (show w2.heap.size < (w2.alloc (.cells #[(.slice A m.length c), (.int .i64 a0_1), (.int .i64 a0_2), (.int .i64 a0_3), (.int .i64 a0_4), (.int .i64 a0_5), (.slice A7 o7.length c7)] 70)).heap.size by simp)
      have hwg : w.heap.size ≤ w2.heap.size := by have := Z1.out; have := Z2.out; omega
      clear HA4
      have H1 := Aside0.mk h1
      clear h1
      refine (giveAll_calls w2.heap.size A m.length c a0_1 a0_2 a0_3 a0_4 a0_5 A7 o7.length c7 A1 c1 l1 w _ HB.out hwg BK4 HR1.out hok.1 hok.2).mono ?_
      generalize (w2.alloc (.cells #[(.slice A m.length c), (.int .i64 a0_1), (.int .i64 a0_2), (.int .i64 a0_3), (.int .i64 a0_4), (.int .i64 a0_5), (.slice A7 o7.length c7)] 70)) = w3 at HS HR BK1 BK2 BK4 HB Z3
      rintro e w4 ⟨v7, rfl, hR7, hb4, hg⟩
      generalize giveRun a0_1 a0_2 a0_3 l1 a0_5 [] = gr at hR7 hb4 H1 ⊢
      obtain ⟨gu, gws, gok⟩ := gr
      have h1 := H1.out
      simp only [] at h1 hR7 hb4
      replace HS := Aside0.mk (Kd.S_grown HS.out hg (fun k_ hk_ e_ => hk_.2 (Option.some.inj e_)))
      replace HR := Aside0.mk (Kd.R_grown HR.out hg (fun k_ hk_ e_ => hk_.2 (Option.some.inj e_)))
      have HR7 := Aside0.mk (Kd.R_lower hR7 (below_size HB.out))
      replace BK2 := Aside0.mk ((hg.block _ (blk_lt BK2.out) (fun e_ => by have := Option.some.inj e_; have := Z1.out; have := Z2.out; omega)).trans BK2.out)
      replace BK4 := Aside0.mk hb4
      replace HB := Aside0.mk (below_of_grown HB.out hg hwg (below_size HB.out))
      clear hR7 hb4 hg H1 BK1
      cases gok with
      | false =>
        rw [if_neg (by decide)] at h1
        simp only [Option.some.injEq, Prod.mk.injEq] at h1
        obtain ⟨rfl, rfl, rfl, rfl, rfl, rfl, rfl, rfl, rfl⟩ := h1
        have z0 : w4.cell? ⟨w.heap.size + 1, 0, none⟩ = some (.slice none 0 0) := (blk_cell BK2.out 0).trans rfl
        have z1 : w4.cell? ⟨w.heap.size + 1, 1, none⟩ = some (.int .i64 0) := (blk_cell BK2.out 1).trans rfl
        have z2 : w4.cell? ⟨w.heap.size + 1, 2, none⟩ = some (.int .i64 0) := (blk_cell BK2.out 2).trans rfl
        have z3 : w4.cell? ⟨w.heap.size + 1, 3, none⟩ = some (.int .i64 0) := (blk_cell BK2.out 3).trans rfl
        have z4 : w4.cell? ⟨w.heap.size + 1, 4, none⟩ = some (.int .i64 0) := (blk_cell BK2.out 4).trans rfl
        have z5 : w4.cell? ⟨w.heap.size + 1, 5, none⟩ = some (.int .i64 0) := (blk_cell BK2.out 5).trans rfl
        have z6 : w4.cell? ⟨w.heap.size + 1, 6, none⟩ = some (.slice none 0 0) := (blk_cell BK2.out 6).trans rfl
        have zf0 := blk_frozen BK2.out 0
        have zf1 := blk_frozen BK2.out 1
        have zf2 := blk_frozen BK2.out 2
        have zf3 := blk_frozen BK2.out 3
        have zf4 := blk_frozen BK2.out 4
        have zf5 := blk_frozen BK2.out 5
        have zf6 := blk_frozen BK2.out 6
        have zl := blk_lt BK2.out
        clear BK4 HS HR HR7
        go_wp2_with fail
        refine bodyPost_ret (results_ctt rfl _ _ (w.heap.size + 1) 70 #[(.slice none 0 0), (.int .i64 0), (.int .i64 0), (.int .i64 0), (.int .i64 0), (.int .i64 0), (.slice none 0 0)] (0, 0) _ rfl (by (with_reducible repeat (first | refine blk_drewN ?_ _ | refine blk_drew ?_ | refine blk_alloc ?_ _)); refine blk_put (cs := #[(.slice none 0 0), (.int .i64 0), (.int .i64 0), (.int .i64 0), (.int .i64 0), (.int .i64 0), (.slice none 0 0)]) ?_ 6 _ rfl; (with_reducible repeat (first | refine blk_drewN ?_ _ | refine blk_drew ?_ | refine blk_alloc ?_ _)); refine blk_put (cs := #[(.slice none 0 0), (.int .i64 0), (.int .i64 0), (.int .i64 0), (.int .i64 0), (.int .i64 0), (.slice none 0 0)]) ?_ 5 _ rfl; (with_reducible repeat (first | refine blk_drewN ?_ _ | refine blk_drew ?_ | refine blk_alloc ?_ _)); refine blk_put (cs := #[(.slice none 0 0), (.int .i64 0), (.int .i64 0), (.int .i64 0), (.int .i64 0), (.int .i64 0), (.slice none 0 0)]) ?_ 4 _ rfl; (with_reducible repeat (first | refine blk_drewN ?_ _ | refine blk_drew ?_ | refine blk_alloc ?_ _)); refine blk_put (cs := #[(.slice none 0 0), (.int .i64 0), (.int .i64 0), (.int .i64 0), (.int .i64 0), (.int .i64 0), (.slice none 0 0)]) ?_ 3 _ rfl; (with_reducible repeat (first | refine blk_drewN ?_ _ | refine blk_drew ?_ | refine blk_alloc ?_ _)); refine blk_put (cs := #[(.slice none 0 0), (.int .i64 0), (.int .i64 0), (.int .i64 0), (.int .i64 0), (.int .i64 0), (.slice none 0 0)]) ?_ 2 _ rfl; (with_reducible repeat (first | refine blk_drewN ?_ _ | refine blk_drew ?_ | refine blk_alloc ?_ _)); refine blk_put (cs := #[(.slice none 0 0), (.int .i64 0), (.int .i64 0), (.int .i64 0), (.int .i64 0), (.int .i64 0), (.slice none 0 0)]) ?_ 1 _ rfl; (with_reducible repeat (first | refine blk_drewN ?_ _ | refine blk_drew ?_ | refine blk_alloc ?_ _)); refine blk_put (cs := #[(.slice none 0 0), (.int .i64 0), (.int .i64 0), (.int .i64 0), (.int .i64 0), (.int .i64 0), (.slice none 0 0)]) ?_ 0 _ rfl; (with_reducible repeat (first | refine blk_drewN ?_ _ | refine blk_drew ?_ | refine blk_alloc ?_ _)); exact BK2.out) Try.underlying70 rfl (by kernel_rfl)) rfl ?_
        exact ⟨_, _, _, rfl, Kd.S_nil _ _ _ _ _, Kd.R_nil _ _ _ _ _, Kd.R_nil _ _ _ _ _, by repeat (first | (with_reducible first | exact HB.out | refine below_set ?_ (Nat.le_succ _) | apply below_alloc | apply pw_below_drewN | apply below_drew1) | exact HB.out)⟩
      | true =>
        rw [if_pos rfl] at h1
        simp only [Option.some.injEq, Prod.mk.injEq] at h1
        obtain ⟨rfl, rfl, rfl, rfl, rfl, rfl, rfl, rfl, rfl⟩ := h1
        have y0 : w4.cell? ⟨w2.heap.size, 0, none⟩ = some (.slice A m.length c) := (blk_cell BK4.out 0).trans rfl
        have y1 : w4.cell? ⟨w2.heap.size, 1, none⟩ = some (.int .i64 a0_1) := (blk_cell BK4.out 1).trans rfl
        have y2 : w4.cell? ⟨w2.heap.size, 2, none⟩ = some (.int .i64 a0_2) := (blk_cell BK4.out 2).trans rfl
        have y3 : w4.cell? ⟨w2.heap.size, 3, none⟩ = some (.int .i64 a0_3) := (blk_cell BK4.out 3).trans rfl
        have y4 : w4.cell? ⟨w2.heap.size, 4, none⟩ = some (.int .i64 a0_4) := (blk_cell BK4.out 4).trans rfl
        have y5 : w4.cell? ⟨w2.heap.size, 5, none⟩ = some (.int .i64 gu) := (blk_cell BK4.out 5).trans rfl
        have y6 : w4.cell? ⟨w2.heap.size, 6, none⟩ = some (.slice A7 o7.length c7) := (blk_cell BK4.out 6).trans rfl
        have z0 : w4.cell? ⟨w.heap.size + 1, 0, none⟩ = some (.slice none 0 0) := (blk_cell BK2.out 0).trans rfl
        have z1 : w4.cell? ⟨w.heap.size + 1, 1, none⟩ = some (.int .i64 0) := (blk_cell BK2.out 1).trans rfl
        have z2 : w4.cell? ⟨w.heap.size + 1, 2, none⟩ = some (.int .i64 0) := (blk_cell BK2.out 2).trans rfl
        have z3 : w4.cell? ⟨w.heap.size + 1, 3, none⟩ = some (.int .i64 0) := (blk_cell BK2.out 3).trans rfl
        have z4 : w4.cell? ⟨w.heap.size + 1, 4, none⟩ = some (.int .i64 0) := (blk_cell BK2.out 4).trans rfl
        have z5 : w4.cell? ⟨w.heap.size + 1, 5, none⟩ = some (.int .i64 0) := (blk_cell BK2.out 5).trans rfl
        have z6 : w4.cell? ⟨w.heap.size + 1, 6, none⟩ = some (.slice none 0 0) := (blk_cell BK2.out 6).trans rfl
        have zf0 := blk_frozen BK2.out 0
        have zf1 := blk_frozen BK2.out 1
        have zf2 := blk_frozen BK2.out 2
        have zf3 := blk_frozen BK2.out 3
        have zf4 := blk_frozen BK2.out 4
        have zf5 := blk_frozen BK2.out 5
        have zf6 := blk_frozen BK2.out 6
        have zl := blk_lt BK2.out
        have yl := blk_lt BK4.out
        have HS3 := Aside0.mk (Kd.S_types HS.out BK2.out (by decide))
        have HR3 := Aside0.mk (Kd.R_types HR.out BK2.out (by decide))
        have HW3 := Aside0.mk (Kd.R_types HR7.out BK2.out (by decide))
        go_wp2_with fail
        refine bodyPost_ret (results_ctt rfl _ _ (w.heap.size + 1) 70 #[(.slice A m.length c), (.int .i64 a0_1), (.int .i64 a0_2), (.int .i64 a0_3), (.int .i64 a0_4), (.int .i64 gu), (.slice A7 o7.length c7)] (0, 0) _ rfl (by (with_reducible repeat (first | refine blk_drewN ?_ _ | refine blk_drew ?_ | refine blk_alloc ?_ _)); refine blk_put (cs := #[(.slice A m.length c), (.int .i64 a0_1), (.int .i64 a0_2), (.int .i64 a0_3), (.int .i64 a0_4), (.int .i64 gu), (.slice none 0 0)]) ?_ 6 _ rfl; (with_reducible repeat (first | refine blk_drewN ?_ _ | refine blk_drew ?_ | refine blk_alloc ?_ _)); refine blk_put (cs := #[(.slice A m.length c), (.int .i64 a0_1), (.int .i64 a0_2), (.int .i64 a0_3), (.int .i64 a0_4), (.int .i64 0), (.slice none 0 0)]) ?_ 5 _ rfl; (with_reducible repeat (first | refine blk_drewN ?_ _ | refine blk_drew ?_ | refine blk_alloc ?_ _)); refine blk_put (cs := #[(.slice A m.length c), (.int .i64 a0_1), (.int .i64 a0_2), (.int .i64 a0_3), (.int .i64 0), (.int .i64 0), (.slice none 0 0)]) ?_ 4 _ rfl; (with_reducible repeat (first | refine blk_drewN ?_ _ | refine blk_drew ?_ | refine blk_alloc ?_ _)); refine blk_put (cs := #[(.slice A m.length c), (.int .i64 a0_1), (.int .i64 a0_2), (.int .i64 0), (.int .i64 0), (.int .i64 0), (.slice none 0 0)]) ?_ 3 _ rfl; (with_reducible repeat (first | refine blk_drewN ?_ _ | refine blk_drew ?_ | refine blk_alloc ?_ _)); refine blk_put (cs := #[(.slice A m.length c), (.int .i64 a0_1), (.int .i64 0), (.int .i64 0), (.int .i64 0), (.int .i64 0), (.slice none 0 0)]) ?_ 2 _ rfl; (with_reducible repeat (first | refine blk_drewN ?_ _ | refine blk_drew ?_ | refine blk_alloc ?_ _)); refine blk_put (cs := #[(.slice A m.length c), (.int .i64 0), (.int .i64 0), (.int .i64 0), (.int .i64 0), (.int .i64 0), (.slice none 0 0)]) ?_ 1 _ rfl; (with_reducible repeat (first | refine blk_drewN ?_ _ | refine blk_drew ?_ | refine blk_alloc ?_ _)); refine blk_put (cs := #[(.slice none 0 0), (.int .i64 0), (.int .i64 0), (.int .i64 0), (.int .i64 0), (.int .i64 0), (.slice none 0 0)]) ?_ 0 _ rfl; (with_reducible repeat (first | refine blk_drewN ?_ _ | refine blk_drew ?_ | refine blk_alloc ?_ _)); exact BK2.out) Try.underlying70 rfl (by kernel_rfl)) rfl ?_
        exact ⟨_, _, _, rfl, Kd.S_mono (ok := fun k_ => (True ∧ k_ ≠ w2.heap.size) ∧ k_ ≠ w.heap.size + 1) (by refine Kd.S_far (p := ⟨w.heap.size + 1, 6, none⟩) ?_ (fun k_ hk_ => hk_.2) _; refine Kd.S_far (p := ⟨w.heap.size + 1, 5, none⟩) ?_ (fun k_ hk_ => hk_.2) _; refine Kd.S_far (p := ⟨w.heap.size + 1, 4, none⟩) ?_ (fun k_ hk_ => hk_.2) _; refine Kd.S_far (p := ⟨w.heap.size + 1, 3, none⟩) ?_ (fun k_ hk_ => hk_.2) _; refine Kd.S_far (p := ⟨w.heap.size + 1, 2, none⟩) ?_ (fun k_ hk_ => hk_.2) _; refine Kd.S_far (p := ⟨w.heap.size + 1, 1, none⟩) ?_ (fun k_ hk_ => hk_.2) _; refine Kd.S_far (p := ⟨w.heap.size + 1, 0, none⟩) ?_ (fun k_ hk_ => hk_.2) _; exact HS3.out) (fun _ _ => trivial), Kd.R_mono (ok := fun k_ => (True ∧ k_ ≠ w2.heap.size) ∧ k_ ≠ w.heap.size + 1) (by refine Kd.R_far (p := ⟨w.heap.size + 1, 6, none⟩) ?_ (fun k_ hk_ => hk_.2) _; refine Kd.R_far (p := ⟨w.heap.size + 1, 5, none⟩) ?_ (fun k_ hk_ => hk_.2) _; refine Kd.R_far (p := ⟨w.heap.size + 1, 4, none⟩) ?_ (fun k_ hk_ => hk_.2) _; refine Kd.R_far (p := ⟨w.heap.size + 1, 3, none⟩) ?_ (fun k_ hk_ => hk_.2) _; refine Kd.R_far (p := ⟨w.heap.size + 1, 2, none⟩) ?_ (fun k_ hk_ => hk_.2) _; refine Kd.R_far (p := ⟨w.heap.size + 1, 1, none⟩) ?_ (fun k_ hk_ => hk_.2) _; refine Kd.R_far (p := ⟨w.heap.size + 1, 0, none⟩) ?_ (fun k_ hk_ => hk_.2) _; exact HR3.out) (fun _ _ => trivial), Kd.R_mono (ok := fun k_ => True ∧ k_ ≠ w.heap.size + 1) (by refine Kd.R_far (p := ⟨w.heap.size + 1, 6, none⟩) ?_ (fun k_ hk_ => hk_.2) _; refine Kd.R_far (p := ⟨w.heap.size + 1, 5, none⟩) ?_ (fun k_ hk_ => hk_.2) _; refine Kd.R_far (p := ⟨w.heap.size + 1, 4, none⟩) ?_ (fun k_ hk_ => hk_.2) _; refine Kd.R_far (p := ⟨w.heap.size + 1, 3, none⟩) ?_ (fun k_ hk_ => hk_.2) _; refine Kd.R_far (p := ⟨w.heap.size + 1, 2, none⟩) ?_ (fun k_ hk_ => hk_.2) _; refine Kd.R_far (p := ⟨w.heap.size + 1, 1, none⟩) ?_ (fun k_ hk_ => hk_.2) _; refine Kd.R_far (p := ⟨w.heap.size + 1, 0, none⟩) ?_ (fun k_ hk_ => hk_.2) _; exact HW3.out) (fun _ _ => trivial), by repeat (first | (with_reducible first | exact HB.out | refine below_set ?_ (Nat.le_succ _) | apply below_alloc | apply pw_below_drewN | apply below_drew1) | exact HB.out)⟩
    · rw [if_neg hok] at h1
      exact absurd h1 (by simp)
end Go.Proofs.Ytmkcbbbknbahgaa.P
namespace Go.Proofs.Ytmkcbbbknbahgaa.P
open Go.RowKit Go.Proofs.YtmkcbbbknbahgaaW.PrintWords Go.Proofs.YtmkcbbbknbahgaaW.PrintLast Go.Proofs.YtmkcbbbknbahgaaW.PrintMore
attribute [local go_sem] max2_int min2_int max_two min_two max_three min_three max_four min_four   -- for this text's walks alone
set_option linter.unusedVariables false
set_option linter.unusedSimpArgs false

def impl_Give.f (k : Nat) (l0_0 : List (List Int)) (a0_1 : Int) (a0_2 : Int) (a0_3 : Int) (a0_4 : Int) (a0_5 : Int) (l0_6 : List Int) (a1_0 : Int) (a1_1 : Int) : Option ((List (List Int)) × Int × Int × Int × Int × Int × List Int × Int × Int × Int × Int × Bool) := (impl_GiveAll.f k l0_0 a0_1 a0_2 a0_3 a0_4 a0_5 l0_6 (([(⟨a1_0, a1_1⟩ : S74)] : List (S74)))).bind fun bt808 => (if bt808.2.2.2.2.2.2.2.2 = true then (if 0 < (bt808.2.2.2.2.2.2.2.1.length : Int) then (some (bt808.1, bt808.2.1, bt808.2.2.1, bt808.2.2.2.1, bt808.2.2.2.2.1, bt808.2.2.2.2.2.1, bt808.2.2.2.2.2.2.1, (rd_T32 bt808.2.2.2.2.2.2.2.1 0).f0, (rd_T32 bt808.2.2.2.2.2.2.2.1 0).f1, (rd_T32 bt808.2.2.2.2.2.2.2.1 0).f2, (rd_T32 bt808.2.2.2.2.2.2.2.1 0).f3, true)) else (none)) else (some (([] : List (List Int)), 0, 0, 0, 0, 0, ([] : List Int), 0, 0, 0, 0, false)))

set_option maxHeartbeats 8000000 in
set_option maxRecDepth 100000 in
theorem impl_Give.calls (k : Nat) (A0_0 : Option Addr) (c0_0 : Nat) (l0_0 : List (List Int)) (a0_1 : Int) (a0_2 : Int) (a0_3 : Int) (a0_4 : Int) (a0_5 : Int) (A0_6 : Option Addr) (c0_6 : Nat) (l0_6 : List Int) (a1_0 : Int) (a1_1 : Int) (r1 : List (List Int)) (r2 : Int) (r3 : Int) (r4 : Int) (r5 : Int) (r6 : Int) (r7 : List Int) (r8 : Int) (r9 : Int) (r10 : Int) (r11 : Int) (r12 : Bool) (w : World) (hr0_0 : Kd.C (Kd.slice 5 (Kd.int .u8)) w A0_0 l0_0.length l0_0) (hc0_0 : l0_0.length ≤ c0_0) (hr0_6 : Kd.C (Kd.int .i64) w A0_6 l0_6.length l0_6) (hc0_6 : l0_6.length ≤ c0_6) (h : impl_Give.f k l0_0 a0_1 a0_2 a0_3 a0_4 a0_5 l0_6 a1_0 a1_1 = some (r1, r2, r3, r4, r5, r6, r7, r8, r9, r10, r11, r12)) :
  Calls Try.prog 39 #[.agg #[.slice A0_0 l0_0.length c0_0, .int .i64 a0_1, .int .i64 a0_2, .int .i64 a0_3, .int .i64 a0_4, .int .i64 a0_5, .slice A0_6 l0_6.length c0_6], .agg #[.int .i64 a1_0, .int .i64 a1_1]] w fun e w' => ∃ v0_ v6_ : Value, e = .returned (.tuple #[.agg #[v0_, .int .i64 r2, .int .i64 r3, .int .i64 r4, .int .i64 r5, .int .i64 r6, v6_], .agg #[.int .i64 r8, .int .i64 r9, .int .i64 r10, .int .i64 r11], .bool r12]) ∧ Kd.S (Kd.slice 5 (Kd.int .u8)) 29 w' w.heap.size (fun _ => True) v0_ r1 ∧ Kd.R (Kd.int .i64) 3 w' w.heap.size (fun _ => True) v6_ r7 ∧ Below w.heap.size w w' := by
 have hu70 := Try.underlying70
 have hu74 := Try.underlying74
 have hu32 := Try.underlying32
 have HR0_0 := Aside0.mk hr0_0
 have HC0_0 := Aside0.mk hc0_0
 clear hr0_0 hc0_0
 have HR0_6 := Aside0.mk hr0_6
 have HC0_6 := Aside0.mk hc0_6
 clear hr0_6 hc0_6
 have HB := Aside0.mk (Below.refl w.heap.size w)
 have H : ((impl_GiveAll.f k l0_0 a0_1 a0_2 a0_3 a0_4 a0_5 l0_6 (([(⟨a1_0, a1_1⟩ : S74)] : List (S74)))).bind fun bt808 => (if bt808.2.2.2.2.2.2.2.2 = true then (if 0 < (bt808.2.2.2.2.2.2.2.1.length : Int) then (some (bt808.1, bt808.2.1, bt808.2.2.1, bt808.2.2.2.1, bt808.2.2.2.2.1, bt808.2.2.2.2.2.1, bt808.2.2.2.2.2.2.1, (rd_T32 bt808.2.2.2.2.2.2.2.1 0).f0, (rd_T32 bt808.2.2.2.2.2.2.2.1 0).f1, (rd_T32 bt808.2.2.2.2.2.2.2.1 0).f2, (rd_T32 bt808.2.2.2.2.2.2.2.1 0).f3, true)) else (none)) else (some (([] : List (List Int)), 0, 0, 0, 0, 0, ([] : List Int), 0, 0, 0, 0, false)))) = some (r1, r2, r3, r4, r5, r6, r7, r8, r9, r10, r11, r12) := h
 clear h
 obtain ⟨y805, hy805⟩ : ∃ y_ : List (S74), y_ = (([(⟨a1_0, a1_1⟩ : S74)] : List (S74))) := ⟨_, rfl⟩
 replace H : ((impl_GiveAll.f k l0_0 a0_1 a0_2 a0_3 a0_4 a0_5 l0_6 y805).bind fun bt808 => (if bt808.2.2.2.2.2.2.2.2 = true then (if 0 < (bt808.2.2.2.2.2.2.2.1.length : Int) then (some (bt808.1, bt808.2.1, bt808.2.2.1, bt808.2.2.2.1, bt808.2.2.2.2.1, bt808.2.2.2.2.2.1, bt808.2.2.2.2.2.2.1, (rd_T32 bt808.2.2.2.2.2.2.2.1 0).f0, (rd_T32 bt808.2.2.2.2.2.2.2.1 0).f1, (rd_T32 bt808.2.2.2.2.2.2.2.1 0).f2, (rd_T32 bt808.2.2.2.2.2.2.2.1 0).f3, true)) else (none)) else (some (([] : List (List Int)), 0, 0, 0, 0, 0, ([] : List Int), 0, 0, 0, 0, false)))) = some (r1, r2, r3, r4, r5, r6, r7, r8, r9, r10, r11, r12) := by first | (rw [hy805]; with_reducible exact H) | (have H2_ := (Option.bind_some _ _).symm.trans H; rw [hy805]; with_reducible exact H2_) | (have H2_ := (Option.bind_some _ _).symm.trans H; with_reducible exact H2_) | with_reducible exact H | (rw [hy805]; exact H) | exact H
 have Ny805 := Aside0.mk hy805
 clear hy805
 replace H := Option.bind_eq_some_iff.mp H
 obtain ⟨⟨t808, t811, t812, t813, t814, t815, t816, t819, t822⟩, A30, H⟩ := H
 replace H : (if t822 = true then (if 0 < (t819.length : Int) then (some (t808, t811, t812, t813, t814, t815, t816, (rd_T32 t819 0).f0, (rd_T32 t819 0).f1, (rd_T32 t819 0).f2, (rd_T32 t819 0).f3, true)) else (none)) else (some (([] : List (List Int)), 0, 0, 0, 0, 0, ([] : List Int), 0, 0, 0, 0, false))) = some (r1, r2, r3, r4, r5, r6, r7, r8, r9, r10, r11, r12) := H
 have A3 := Aside0.mk A30
 clear A30
 by_cases c4 : t822 = true
 ·subst c4
  rw [if_pos rfl] at H
  by_cases c5 : 0 < (t819.length : Int)
  ·rw [if_pos c5] at H
   have c5b0 : decide (0 < (t819.length : Int)) = true := decide_eq_true c5
   have c5b1 : decide (0 < t819.length) = true := decide_eq_true (by omega)
   clear c5
   simp only [Option.some.injEq, Prod.mk.injEq] at H
   obtain ⟨rfl, rfl, rfl, rfl, rfl, rfl, rfl, rfl, rfl, rfl, rfl, rfl⟩ := H
   go_enter Try.func39, Try.ntmps39
   try go_wp2_with (first | ((with_reducible refine gate_dst (N := 2) rfl ?_); refine box_event ?hg (N := 2) ?hd (cs := #[.slice A0_0 l0_0.length c0_0, .int .i64 a0_1, .int .i64 a0_2, .int .i64 a0_3, .int .i64 a0_4, .int .i64 a0_5, .slice A0_6 l0_6.length c0_6]) (t := 70) ?hr ?_; (case hd => rfl); (case hg => rfl); (case hr => exact gs_); intro gb801 hg w6 hbox hb; have BK801 := Aside0.mk (hbox); have GW801 := gE_ HB hg; have GE801 := gE_ HB hg; replace HB := Aside0.mk (below_step (by repeat (first | (with_reducible first | exact HB.out | apply ba_ | apply bn_ | apply bd_) | exact HB.out)) hb); clear hb hbox hg) | ((with_reducible refine gate_dst (N := 3) rfl ?_); refine box_event ?hg (N := 3) ?hd (cs := #[.int .i64 a1_0, .int .i64 a1_1]) (t := 74) ?hr ?_; (case hd => rfl); (case hg => rfl); (case hr => exact gs_); intro gb802 hg w7 hbox hb; have BK802 := Aside0.mk (hbox); have GW802 := gE_ HB hg; have GE802 := gE_ HB hg; replace HB := Aside0.mk (below_step (by repeat (first | (with_reducible first | exact HB.out | apply ba_ | apply bn_ | apply bd_ | refine bset_ ?_ (by assumption)) | exact HB.out)) hb); have NB801_802 := nB_ BK801 hg; have NB802_801 := nA_ BK801 hg; replace BK801 := bB_ BK801 hb; clear hb hbox hg) | ((with_reducible refine gate_dst (N := 4) rfl ?_); refine box_event ?hg (N := 4) ?hd (cs := #[.slice none 0 0, .int .i64 0, .int .i64 0, .int .i64 0, .int .i64 0, .int .i64 0, .slice none 0 0]) (t := 70) ?hr ?_; (case hd => rfl); (case hg => rfl); (case hr => exact gs_); intro gb803 hg w8 hbox hb; have BK803 := Aside0.mk (hbox); have GW803 := gE_ HB hg; have GE803 := gE_ HB hg; replace HB := Aside0.mk (below_step (by repeat (first | (with_reducible first | exact HB.out | apply ba_ | apply bn_ | apply bd_ | refine bset_ ?_ (by assumption)) | exact HB.out)) hb); have NB801_803 := nB_ BK801 hg; have NB803_801 := nA_ BK801 hg; replace BK801 := bB_ BK801 hb; have NB802_803 := nB_ BK802 hg; have NB803_802 := nA_ BK802 hg; replace BK802 := bB_ BK802 hb; clear hb hbox hg) | ((with_reducible refine gate_dst (N := 5) rfl ?_); refine box_event ?hg (N := 5) ?hd (cs := #[.int .i64 0, .int .i64 0, .int .i64 0, .int .i64 0]) (t := 32) ?hr ?_; (case hd => rfl); (case hg => rfl); (case hr => exact gs_); intro gb804 hg w9 hbox hb; have BK804 := Aside0.mk (hbox); have GW804 := gE_ HB hg; have GE804 := gE_ HB hg; replace HB := Aside0.mk (below_step (by repeat (first | (with_reducible first | exact HB.out | apply ba_ | apply bn_ | apply bd_ | refine bset_ ?_ (by assumption)) | exact HB.out)) hb); have NB801_804 := nB_ BK801 hg; have NB804_801 := nA_ BK801 hg; replace BK801 := bB_ BK801 hb; have NB802_804 := nB_ BK802 hg; have NB804_802 := nA_ BK802 hg; replace BK802 := bB_ BK802 hb; have NB803_804 := nB_ BK803 hg; have NB804_803 := nA_ BK803 hg; replace BK803 := bB_ BK803 hb; clear hb hbox hg; have hnb10 := NB801_802.out; have hnc10 := NB802_801.out; have hnb11 := NB801_803.out; have hnc11 := NB803_801.out; have hnb12 := NB801_804.out; have hnc12 := NB804_801.out; have hcz13_0 : w9.cell? ⟨gb801, 0, none⟩ = some (.slice A0_0 l0_0.length c0_0) := (blk_cell BK801.out 0).trans rfl; have hcz13_1 : w9.cell? ⟨gb801, 1, none⟩ = some (.int .i64 a0_1) := (blk_cell BK801.out 1).trans rfl; have hcz13_2 : w9.cell? ⟨gb801, 2, none⟩ = some (.int .i64 a0_2) := (blk_cell BK801.out 2).trans rfl; have hcz13_3 : w9.cell? ⟨gb801, 3, none⟩ = some (.int .i64 a0_3) := (blk_cell BK801.out 3).trans rfl; have hcz13_4 : w9.cell? ⟨gb801, 4, none⟩ = some (.int .i64 a0_4) := (blk_cell BK801.out 4).trans rfl; have hcz13_5 : w9.cell? ⟨gb801, 5, none⟩ = some (.int .i64 a0_5) := (blk_cell BK801.out 5).trans rfl; have hcz13_6 : w9.cell? ⟨gb801, 6, none⟩ = some (.slice A0_6 l0_6.length c0_6) := (blk_cell BK801.out 6).trans rfl; have hfz13_0 := blk_frozen BK801.out 0; have hfz13_1 := blk_frozen BK801.out 1; have hfz13_2 := blk_frozen BK801.out 2; have hfz13_3 := blk_frozen BK801.out 3; have hfz13_4 := blk_frozen BK801.out 4; have hfz13_5 := blk_frozen BK801.out 5; have hfz13_6 := blk_frozen BK801.out 6; have hnb14 := NB802_803.out; have hnc14 := NB803_802.out; have hnb15 := NB802_804.out; have hnc15 := NB804_802.out; have hcz16_0 : w9.cell? ⟨gb802, 0, none⟩ = some (.int .i64 a1_0) := (blk_cell BK802.out 0).trans rfl; have hcz16_1 : w9.cell? ⟨gb802, 1, none⟩ = some (.int .i64 a1_1) := (blk_cell BK802.out 1).trans rfl; have hfz16_0 := blk_frozen BK802.out 0; have hfz16_1 := blk_frozen BK802.out 1) | ((with_reducible refine gate_dst (N := 13) rfl ?_); refine Kd.R_lit k74 _ 74 ?hg (N := 13) ?hd (xs := ([(⟨a1_0, a1_1⟩ : S74)] : List (S74))) (inner := [.int .i64 a1_0, .int .i64 a1_1]) (ok := fun _ => True) (okp := fun _ => True) ?hr ?hp (fun _ hk => hk) trivial (Below.refl _ _) (Nat.le_refl _) (by simp) ?_; (case hd => rfl); (case hg => rfl); (case hr => exact gs_); (case hp => exact (Reps.c2 (show Kd.M k74 _ _ _ (⟨a1_0, a1_1⟩ : S74) [.int .i64 a1_0, .int .i64 a1_1] from (k74_mkM _ _ _ (⟨a1_0, a1_1⟩ : S74) )) (Reps.none _ _))); intro v806 w17 ho18 hb hg_ hnew_; clear hg_ hnew_; (first | rw [← Ny805.out] at ho18 | (simp only [Int.reduceToNat] at ho18; rw [← Ny805.out] at ho18)); have HO807 := Aside0.mk (rL_ (Kd.R_newB ho18 (g := gb802) (o := .cells #[.int .i64 a1_0, .int .i64 a1_1] 74 (0, 0)) (bK_ BK802)) HB); replace BK801 := bB_ BK801 hb; replace BK802 := bB_ BK802 hb; replace BK803 := bB_ BK803 hb; replace BK804 := bB_ BK804 hb; replace HB := Aside0.mk (below_step (by repeat (first | (with_reducible first | exact HB.out | apply ba_ | apply bn_ | apply bd_ | refine bset_ ?_ (by assumption)) | exact HB.out)) hb); clear hb ho18; obtain ⟨Ao19, co19, eo19⟩ := Kd.R_slice HO807.out; subst eo19) | ((with_reducible refine gate_callee (f := 49) rfl ?_); refine goesL_ (some 14) rfl rfl Try.func49 (by kernel_rfl) rfl #[.agg #[.slice A0_0 l0_0.length c0_0, .int .i64 a0_1, .int .i64 a0_2, .int .i64 a0_3, .int .i64 a0_4, .int .i64 a0_5, .slice A0_6 l0_6.length c0_6], .slice Ao19 y805.length co19] rfl ar_ ?_; (with_reducible refine (impl_GiveAll.calls k _ _ l0_0 a0_1 a0_2 a0_3 a0_4 a0_5 _ _ l0_6 _ _ y805 t808 t811 t812 t813 t814 t815 t816 t819 true _ ?side1 ?side2 ?side3 ?side4 ?side5 ?side6 A3.out).mono ?_); (case side1 => repeat (first | exact (Kd.C_below HR0_0.out HB.out) | (with_reducible refine Kd.C_alloc ?_ _) | (with_reducible refine Kd.C_drewN ?_ _) | (with_reducible refine Kd.C_drew ?_))); (case side2 => exact HC0_0.out); (case side3 => repeat (first | exact (Kd.C_below HR0_6.out HB.out) | (with_reducible refine Kd.C_alloc ?_ _) | (with_reducible refine Kd.C_drewN ?_ _) | (with_reducible refine Kd.C_drew ?_))); (case side4 => exact HC0_6.out); (case side5 => repeat (first | exact (Kd.R_reads' HO807.out).2.2 | (with_reducible refine Kd.C_alloc ?_ _) | (with_reducible refine Kd.C_drewN ?_ _) | (with_reducible refine Kd.C_drew ?_))); (case side6 => exact (Kd.R_reads' HO807.out).2.1); rintro e w20 ⟨v809, v817, v820, rfl, ho0, ho1, ho2, hb⟩; refine ⟨_, rfl, ?_⟩; replace HO807 := Aside0.mk (Kd.R_below (rK_ HO807) hb); have HO810 := Aside0.mk (sL_ ho0 HB); have HO818 := Aside0.mk (rL_ ho1 HB); have HO821 := Aside0.mk (rL_ (Kd.R_newB ho2 (g := gb804) (o := .cells #[.int .i64 0, .int .i64 0, .int .i64 0, .int .i64 0] 32 (0, 0)) (bK_ BK804)) HB); replace BK801 := bB_ BK801 hb; replace BK802 := bB_ BK802 hb; replace BK803 := bB_ BK803 hb; replace BK804 := bB_ BK804 hb; replace HB := Aside0.mk (below_step (by repeat (first | (with_reducible first | exact HB.out | apply ba_ | apply bn_ | apply bd_ | refine bset_ ?_ (by assumption)) | exact HB.out)) hb); (try clear hb); (try clear hb2); (try clear hk); (try clear hi); (try clear ho0); (try clear ho1); (try clear ho2)) | ((with_reducible refine gate_dst (N := 7) rfl ?_); refine box_event ?hg (N := 7) ?hd (cs := #[.slice none 0 0, .int .i64 0, .int .i64 0, .int .i64 0, .int .i64 0, .int .i64 0, .slice none 0 0]) (t := 70) ?hr ?_; (case hd => rfl); (case hg => rfl); (case hr => exact gs_); intro gb823 hg w21 hbox hb; replace HO807 := Aside0.mk (Kd.R_below (rK_ HO807) hb); replace HO810 := Aside0.mk (Kd.S_below (sK_ HO810) hb); replace HO818 := Aside0.mk (Kd.R_below (rK_ HO818) hb); replace HO821 := Aside0.mk (Kd.R_below (rK_ HO821) hb); have BK823 := Aside0.mk (hbox); have GW823 := gE_ HB hg; have GE823 := gE_ HB hg; replace HB := Aside0.mk (below_step (by repeat (first | (with_reducible first | exact HB.out | apply ba_ | apply bn_ | apply bd_ | refine bset_ ?_ (by assumption)) | exact HB.out)) hb); have NB801_823 := nB_ BK801 hg; have NB823_801 := nA_ BK801 hg; replace BK801 := bB_ BK801 hb; have NB802_823 := nB_ BK802 hg; have NB823_802 := nA_ BK802 hg; replace BK802 := bB_ BK802 hb; have NB803_823 := nB_ BK803 hg; have NB823_803 := nA_ BK803 hg; replace BK803 := bB_ BK803 hb; have NB804_823 := nB_ BK804 hg; have NB823_804 := nA_ BK804 hg; replace BK804 := bB_ BK804 hb; clear hb hbox hg; obtain ⟨Ao22, co22, eo22⟩ := Kd.S_slice HO810.out; subst eo22; have hnb23 := NB823_801.out; have hnc23 := NB801_823.out; have hnb24 := NB823_802.out; have hnc24 := NB802_823.out; have hnb25 := NB823_803.out; have hnc25 := NB803_823.out; have hnb26 := NB823_804.out; have hnc26 := NB804_823.out; have hcz27_0 : w21.cell? ⟨gb823, 0, none⟩ = some (.slice none 0 0) := (blk_cell BK823.out 0).trans rfl; have hcz27_1 : w21.cell? ⟨gb823, 1, none⟩ = some (.int .i64 0) := (blk_cell BK823.out 1).trans rfl; have hcz27_2 : w21.cell? ⟨gb823, 2, none⟩ = some (.int .i64 0) := (blk_cell BK823.out 2).trans rfl; have hcz27_3 : w21.cell? ⟨gb823, 3, none⟩ = some (.int .i64 0) := (blk_cell BK823.out 3).trans rfl; have hcz27_4 : w21.cell? ⟨gb823, 4, none⟩ = some (.int .i64 0) := (blk_cell BK823.out 4).trans rfl; have hcz27_5 : w21.cell? ⟨gb823, 5, none⟩ = some (.int .i64 0) := (blk_cell BK823.out 5).trans rfl; have hcz27_6 : w21.cell? ⟨gb823, 6, none⟩ = some (.slice none 0 0) := (blk_cell BK823.out 6).trans rfl; have hfz27_0 := blk_frozen BK823.out 0; have hfz27_1 := blk_frozen BK823.out 1; have hfz27_2 := blk_frozen BK823.out 2; have hfz27_3 := blk_frozen BK823.out 3; have hfz27_4 := blk_frozen BK823.out 4; have hfz27_5 := blk_frozen BK823.out 5; have hfz27_6 := blk_frozen BK823.out 6; obtain ⟨Ao28, co28, eo28⟩ := Kd.R_slice HO818.out; subst eo28))
   have n0_ : Aside0 (Kd.R k74 74 (((((((w21.setCell ⟨gb823, 0, none⟩ (.slice Ao22 t808.length co22)).setCell ⟨gb823, 1, none⟩ (.int .i64 t811)).setCell ⟨gb823, 2, none⟩ (.int .i64 t812)).setCell ⟨gb823, 3, none⟩ (.int .i64 t813)).setCell ⟨gb823, 4, none⟩ (.int .i64 t814)).setCell ⟨gb823, 5, none⟩ (.int .i64 t815)).setCell ⟨gb823, 6, none⟩ (.slice Ao28 t816.length co28)) w.heap.size (fun k_ => k_ ≠ gb802) (.slice Ao19 y805.length co19) y805) := ⟨by (with_reducible repeat first | apply kr1_ | apply kr2_ | apply kr3_); exact Kd.R_mono (Kd.R_far (p := ⟨gb823, 6, none⟩) (Kd.R_far (p := ⟨gb823, 5, none⟩) (Kd.R_far (p := ⟨gb823, 4, none⟩) (Kd.R_far (p := ⟨gb823, 3, none⟩) (Kd.R_far (p := ⟨gb823, 2, none⟩) (Kd.R_far (p := ⟨gb823, 1, none⟩) (Kd.R_far (p := ⟨gb823, 0, none⟩) (Kd.R_types HO807.out BK823.out (by decide)) (fun _ hk => hk.2) (.slice Ao22 t808.length co22)) (fun _ hk => hk.2) (.int .i64 t811)) (fun _ hk => hk.2) (.int .i64 t812)) (fun _ hk => hk.2) (.int .i64 t813)) (fun _ hk => hk.2) (.int .i64 t814)) (fun _ hk => hk.2) (.int .i64 t815)) (fun _ hk => hk.2) (.slice Ao28 t816.length co28)) (fun _ hk => hk.1.2)⟩
   have n1_ : Aside0 (Kd.S (Kd.slice 5 (Kd.int .u8)) 29 (((((((w21.setCell ⟨gb823, 0, none⟩ (.slice Ao22 t808.length co22)).setCell ⟨gb823, 1, none⟩ (.int .i64 t811)).setCell ⟨gb823, 2, none⟩ (.int .i64 t812)).setCell ⟨gb823, 3, none⟩ (.int .i64 t813)).setCell ⟨gb823, 4, none⟩ (.int .i64 t814)).setCell ⟨gb823, 5, none⟩ (.int .i64 t815)).setCell ⟨gb823, 6, none⟩ (.slice Ao28 t816.length co28)) w.heap.size (fun _ => True) (.slice Ao22 t808.length co22) t808) := ⟨by (with_reducible repeat first | apply ks1_ | apply ks2_ | apply ks3_); exact Kd.S_mono (Kd.S_far (p := ⟨gb823, 6, none⟩) (Kd.S_far (p := ⟨gb823, 5, none⟩) (Kd.S_far (p := ⟨gb823, 4, none⟩) (Kd.S_far (p := ⟨gb823, 3, none⟩) (Kd.S_far (p := ⟨gb823, 2, none⟩) (Kd.S_far (p := ⟨gb823, 1, none⟩) (Kd.S_far (p := ⟨gb823, 0, none⟩) (Kd.S_types HO810.out BK823.out (by decide)) (fun _ hk => hk.2) (.slice Ao22 t808.length co22)) (fun _ hk => hk.2) (.int .i64 t811)) (fun _ hk => hk.2) (.int .i64 t812)) (fun _ hk => hk.2) (.int .i64 t813)) (fun _ hk => hk.2) (.int .i64 t814)) (fun _ hk => hk.2) (.int .i64 t815)) (fun _ hk => hk.2) (.slice Ao28 t816.length co28)) (fun _ hk => trivial)⟩
   have n2_ : Aside0 (Kd.R (Kd.int .i64) 3 (((((((w21.setCell ⟨gb823, 0, none⟩ (.slice Ao22 t808.length co22)).setCell ⟨gb823, 1, none⟩ (.int .i64 t811)).setCell ⟨gb823, 2, none⟩ (.int .i64 t812)).setCell ⟨gb823, 3, none⟩ (.int .i64 t813)).setCell ⟨gb823, 4, none⟩ (.int .i64 t814)).setCell ⟨gb823, 5, none⟩ (.int .i64 t815)).setCell ⟨gb823, 6, none⟩ (.slice Ao28 t816.length co28)) w.heap.size (fun _ => True) (.slice Ao28 t816.length co28) t816) := ⟨by (with_reducible repeat first | apply kr1_ | apply kr2_ | apply kr3_); exact Kd.R_mono (Kd.R_far (p := ⟨gb823, 6, none⟩) (Kd.R_far (p := ⟨gb823, 5, none⟩) (Kd.R_far (p := ⟨gb823, 4, none⟩) (Kd.R_far (p := ⟨gb823, 3, none⟩) (Kd.R_far (p := ⟨gb823, 2, none⟩) (Kd.R_far (p := ⟨gb823, 1, none⟩) (Kd.R_far (p := ⟨gb823, 0, none⟩) (Kd.R_types HO818.out BK823.out (by decide)) (fun _ hk => hk.2) (.slice Ao22 t808.length co22)) (fun _ hk => hk.2) (.int .i64 t811)) (fun _ hk => hk.2) (.int .i64 t812)) (fun _ hk => hk.2) (.int .i64 t813)) (fun _ hk => hk.2) (.int .i64 t814)) (fun _ hk => hk.2) (.int .i64 t815)) (fun _ hk => hk.2) (.slice Ao28 t816.length co28)) (fun _ hk => trivial)⟩
   have n3_ : Aside0 (Kd.R k32 32 (((((((w21.setCell ⟨gb823, 0, none⟩ (.slice Ao22 t808.length co22)).setCell ⟨gb823, 1, none⟩ (.int .i64 t811)).setCell ⟨gb823, 2, none⟩ (.int .i64 t812)).setCell ⟨gb823, 3, none⟩ (.int .i64 t813)).setCell ⟨gb823, 4, none⟩ (.int .i64 t814)).setCell ⟨gb823, 5, none⟩ (.int .i64 t815)).setCell ⟨gb823, 6, none⟩ (.slice Ao28 t816.length co28)) w.heap.size (fun k_ => k_ ≠ gb804) v820 t819) := ⟨by (with_reducible repeat first | apply kr1_ | apply kr2_ | apply kr3_); exact Kd.R_mono (Kd.R_far (p := ⟨gb823, 6, none⟩) (Kd.R_far (p := ⟨gb823, 5, none⟩) (Kd.R_far (p := ⟨gb823, 4, none⟩) (Kd.R_far (p := ⟨gb823, 3, none⟩) (Kd.R_far (p := ⟨gb823, 2, none⟩) (Kd.R_far (p := ⟨gb823, 1, none⟩) (Kd.R_far (p := ⟨gb823, 0, none⟩) (Kd.R_types HO821.out BK823.out (by decide)) (fun _ hk => hk.2) (.slice Ao22 t808.length co22)) (fun _ hk => hk.2) (.int .i64 t811)) (fun _ hk => hk.2) (.int .i64 t812)) (fun _ hk => hk.2) (.int .i64 t813)) (fun _ hk => hk.2) (.int .i64 t814)) (fun _ hk => hk.2) (.int .i64 t815)) (fun _ hk => hk.2) (.slice Ao28 t816.length co28)) (fun _ hk => hk.1.2)⟩
   have n4_ : Aside0 ((((((((w21.setCell ⟨gb823, 0, none⟩ (.slice Ao22 t808.length co22)).setCell ⟨gb823, 1, none⟩ (.int .i64 t811)).setCell ⟨gb823, 2, none⟩ (.int .i64 t812)).setCell ⟨gb823, 3, none⟩ (.int .i64 t813)).setCell ⟨gb823, 4, none⟩ (.int .i64 t814)).setCell ⟨gb823, 5, none⟩ (.int .i64 t815)).setCell ⟨gb823, 6, none⟩ (.slice Ao28 t816.length co28)).heap[gb801]? = some (.cells #[.slice A0_0 l0_0.length c0_0, .int .i64 a0_1, .int .i64 a0_2, .int .i64 a0_3, .int .i64 a0_4, .int .i64 a0_5, .slice A0_6 l0_6.length c0_6] 70 (0, 0))) := ⟨by (with_reducible repeat first | apply kb1_ | apply kb2_ | apply kb3_); refine blk_far ?_ NB801_823.out _; (with_reducible repeat first | apply kb1_ | apply kb2_ | apply kb3_); refine blk_far ?_ NB801_823.out _; (with_reducible repeat first | apply kb1_ | apply kb2_ | apply kb3_); refine blk_far ?_ NB801_823.out _; (with_reducible repeat first | apply kb1_ | apply kb2_ | apply kb3_); refine blk_far ?_ NB801_823.out _; (with_reducible repeat first | apply kb1_ | apply kb2_ | apply kb3_); refine blk_far ?_ NB801_823.out _; (with_reducible repeat first | apply kb1_ | apply kb2_ | apply kb3_); refine blk_far ?_ NB801_823.out _; (with_reducible repeat first | apply kb1_ | apply kb2_ | apply kb3_); refine blk_far ?_ NB801_823.out _; (with_reducible repeat first | apply kb1_ | apply kb2_ | apply kb3_); exact BK801.out⟩
   have n5_ : Aside0 ((((((((w21.setCell ⟨gb823, 0, none⟩ (.slice Ao22 t808.length co22)).setCell ⟨gb823, 1, none⟩ (.int .i64 t811)).setCell ⟨gb823, 2, none⟩ (.int .i64 t812)).setCell ⟨gb823, 3, none⟩ (.int .i64 t813)).setCell ⟨gb823, 4, none⟩ (.int .i64 t814)).setCell ⟨gb823, 5, none⟩ (.int .i64 t815)).setCell ⟨gb823, 6, none⟩ (.slice Ao28 t816.length co28)).heap[gb802]? = some (.cells #[.int .i64 a1_0, .int .i64 a1_1] 74 (0, 0))) := ⟨by (with_reducible repeat first | apply kb1_ | apply kb2_ | apply kb3_); refine blk_far ?_ NB802_823.out _; (with_reducible repeat first | apply kb1_ | apply kb2_ | apply kb3_); refine blk_far ?_ NB802_823.out _; (with_reducible repeat first | apply kb1_ | apply kb2_ | apply kb3_); refine blk_far ?_ NB802_823.out _; (with_reducible repeat first | apply kb1_ | apply kb2_ | apply kb3_); refine blk_far ?_ NB802_823.out _; (with_reducible repeat first | apply kb1_ | apply kb2_ | apply kb3_); refine blk_far ?_ NB802_823.out _; (with_reducible repeat first | apply kb1_ | apply kb2_ | apply kb3_); refine blk_far ?_ NB802_823.out _; (with_reducible repeat first | apply kb1_ | apply kb2_ | apply kb3_); refine blk_far ?_ NB802_823.out _; (with_reducible repeat first | apply kb1_ | apply kb2_ | apply kb3_); exact BK802.out⟩
   have n6_ : Aside0 ((((((((w21.setCell ⟨gb823, 0, none⟩ (.slice Ao22 t808.length co22)).setCell ⟨gb823, 1, none⟩ (.int .i64 t811)).setCell ⟨gb823, 2, none⟩ (.int .i64 t812)).setCell ⟨gb823, 3, none⟩ (.int .i64 t813)).setCell ⟨gb823, 4, none⟩ (.int .i64 t814)).setCell ⟨gb823, 5, none⟩ (.int .i64 t815)).setCell ⟨gb823, 6, none⟩ (.slice Ao28 t816.length co28)).heap[gb803]? = some (.cells #[.slice none 0 0, .int .i64 0, .int .i64 0, .int .i64 0, .int .i64 0, .int .i64 0, .slice none 0 0] 70 (0, 0))) := ⟨by (with_reducible repeat first | apply kb1_ | apply kb2_ | apply kb3_); refine blk_far ?_ NB803_823.out _; (with_reducible repeat first | apply kb1_ | apply kb2_ | apply kb3_); refine blk_far ?_ NB803_823.out _; (with_reducible repeat first | apply kb1_ | apply kb2_ | apply kb3_); refine blk_far ?_ NB803_823.out _; (with_reducible repeat first | apply kb1_ | apply kb2_ | apply kb3_); refine blk_far ?_ NB803_823.out _; (with_reducible repeat first | apply kb1_ | apply kb2_ | apply kb3_); refine blk_far ?_ NB803_823.out _; (with_reducible repeat first | apply kb1_ | apply kb2_ | apply kb3_); refine blk_far ?_ NB803_823.out _; (with_reducible repeat first | apply kb1_ | apply kb2_ | apply kb3_); refine blk_far ?_ NB803_823.out _; (with_reducible repeat first | apply kb1_ | apply kb2_ | apply kb3_); exact BK803.out⟩
   have n7_ : Aside0 ((((((((w21.setCell ⟨gb823, 0, none⟩ (.slice Ao22 t808.length co22)).setCell ⟨gb823, 1, none⟩ (.int .i64 t811)).setCell ⟨gb823, 2, none⟩ (.int .i64 t812)).setCell ⟨gb823, 3, none⟩ (.int .i64 t813)).setCell ⟨gb823, 4, none⟩ (.int .i64 t814)).setCell ⟨gb823, 5, none⟩ (.int .i64 t815)).setCell ⟨gb823, 6, none⟩ (.slice Ao28 t816.length co28)).heap[gb804]? = some (.cells #[.int .i64 0, .int .i64 0, .int .i64 0, .int .i64 0] 32 (0, 0))) := ⟨by (with_reducible repeat first | apply kb1_ | apply kb2_ | apply kb3_); refine blk_far ?_ NB804_823.out _; (with_reducible repeat first | apply kb1_ | apply kb2_ | apply kb3_); refine blk_far ?_ NB804_823.out _; (with_reducible repeat first | apply kb1_ | apply kb2_ | apply kb3_); refine blk_far ?_ NB804_823.out _; (with_reducible repeat first | apply kb1_ | apply kb2_ | apply kb3_); refine blk_far ?_ NB804_823.out _; (with_reducible repeat first | apply kb1_ | apply kb2_ | apply kb3_); refine blk_far ?_ NB804_823.out _; (with_reducible repeat first | apply kb1_ | apply kb2_ | apply kb3_); refine blk_far ?_ NB804_823.out _; (with_reducible repeat first | apply kb1_ | apply kb2_ | apply kb3_); refine blk_far ?_ NB804_823.out _; (with_reducible repeat first | apply kb1_ | apply kb2_ | apply kb3_); exact BK804.out⟩
   have n8_ : Aside0 ((((((((w21.setCell ⟨gb823, 0, none⟩ (.slice Ao22 t808.length co22)).setCell ⟨gb823, 1, none⟩ (.int .i64 t811)).setCell ⟨gb823, 2, none⟩ (.int .i64 t812)).setCell ⟨gb823, 3, none⟩ (.int .i64 t813)).setCell ⟨gb823, 4, none⟩ (.int .i64 t814)).setCell ⟨gb823, 5, none⟩ (.int .i64 t815)).setCell ⟨gb823, 6, none⟩ (.slice Ao28 t816.length co28)).heap[gb823]? = some (.cells #[.slice Ao22 t808.length co22, .int .i64 t811, .int .i64 t812, .int .i64 t813, .int .i64 t814, .int .i64 t815, .slice Ao28 t816.length co28] 70 (0, 0))) := ⟨by (with_reducible repeat first | apply kb1_ | apply kb2_ | apply kb3_); refine blk_put (cs := #[.slice Ao22 t808.length co22, .int .i64 t811, .int .i64 t812, .int .i64 t813, .int .i64 t814, .int .i64 t815, .slice none 0 0]) ?_ 6 _ rfl; (with_reducible repeat first | apply kb1_ | apply kb2_ | apply kb3_); refine blk_put (cs := #[.slice Ao22 t808.length co22, .int .i64 t811, .int .i64 t812, .int .i64 t813, .int .i64 t814, .int .i64 0, .slice none 0 0]) ?_ 5 _ rfl; (with_reducible repeat first | apply kb1_ | apply kb2_ | apply kb3_); refine blk_put (cs := #[.slice Ao22 t808.length co22, .int .i64 t811, .int .i64 t812, .int .i64 t813, .int .i64 0, .int .i64 0, .slice none 0 0]) ?_ 4 _ rfl; (with_reducible repeat first | apply kb1_ | apply kb2_ | apply kb3_); refine blk_put (cs := #[.slice Ao22 t808.length co22, .int .i64 t811, .int .i64 t812, .int .i64 0, .int .i64 0, .int .i64 0, .slice none 0 0]) ?_ 3 _ rfl; (with_reducible repeat first | apply kb1_ | apply kb2_ | apply kb3_); refine blk_put (cs := #[.slice Ao22 t808.length co22, .int .i64 t811, .int .i64 0, .int .i64 0, .int .i64 0, .int .i64 0, .slice none 0 0]) ?_ 2 _ rfl; (with_reducible repeat first | apply kb1_ | apply kb2_ | apply kb3_); refine blk_put (cs := #[.slice Ao22 t808.length co22, .int .i64 0, .int .i64 0, .int .i64 0, .int .i64 0, .int .i64 0, .slice none 0 0]) ?_ 1 _ rfl; (with_reducible repeat first | apply kb1_ | apply kb2_ | apply kb3_); refine blk_put (cs := #[.slice none 0 0, .int .i64 0, .int .i64 0, .int .i64 0, .int .i64 0, .int .i64 0, .slice none 0 0]) ?_ 0 _ rfl; (with_reducible repeat first | apply kb1_ | apply kb2_ | apply kb3_); exact BK823.out⟩
   have n9_ : Aside0 (Below w.heap.size w (((((((w21.setCell ⟨gb823, 0, none⟩ (.slice Ao22 t808.length co22)).setCell ⟨gb823, 1, none⟩ (.int .i64 t811)).setCell ⟨gb823, 2, none⟩ (.int .i64 t812)).setCell ⟨gb823, 3, none⟩ (.int .i64 t813)).setCell ⟨gb823, 4, none⟩ (.int .i64 t814)).setCell ⟨gb823, 5, none⟩ (.int .i64 t815)).setCell ⟨gb823, 6, none⟩ (.slice Ao28 t816.length co28))) := ⟨by repeat (first | (with_reducible first | exact HB.out | apply below_alloc | apply pw_below_drewN | apply below_drew1 | refine below_set ?_ GE801.out | refine below_set ?_ GE802.out | refine below_set ?_ GE803.out | refine below_set ?_ GE804.out | refine below_set ?_ GE823.out) | exact HB.out)⟩
   (try clear HO807)
   (try clear HO810)
   (try clear HO818)
   (try clear HO821)
   (try clear BK801)
   (try clear BK802)
   (try clear BK803)
   (try clear BK804)
   (try clear BK823)
   (try clear HB)
   generalize (((((((w21.setCell ⟨gb823, 0, none⟩ (.slice Ao22 t808.length co22)).setCell ⟨gb823, 1, none⟩ (.int .i64 t811)).setCell ⟨gb823, 2, none⟩ (.int .i64 t812)).setCell ⟨gb823, 3, none⟩ (.int .i64 t813)).setCell ⟨gb823, 4, none⟩ (.int .i64 t814)).setCell ⟨gb823, 5, none⟩ (.int .i64 t815)).setCell ⟨gb823, 6, none⟩ (.slice Ao28 t816.length co28)) = w29 at n0_ n1_ n2_ n3_ n4_ n5_ n6_ n7_ n8_ n9_ ⊢
   have HO807 := n0_
   have HO810 := n1_
   have HO818 := n2_
   have HO821 := n3_
   have BK801 := n4_
   have BK802 := n5_
   have BK803 := n6_
   have BK804 := n7_
   have BK823 := n8_
   have HB := n9_
   clear n0_ n1_ n2_ n3_ n4_ n5_ n6_ n7_ n8_ n9_
   replace HO807 := Aside0.mk (Kd.R_drew HO807.out)
   replace HO810 := Aside0.mk (Kd.S_drew HO810.out)
   replace HO818 := Aside0.mk (Kd.R_drew HO818.out)
   replace HO821 := Aside0.mk (Kd.R_drew HO821.out)
   replace BK801 := Aside0.mk (blk_drew BK801.out)
   replace BK802 := Aside0.mk (blk_drew BK802.out)
   replace BK803 := Aside0.mk (blk_drew BK803.out)
   replace BK804 := Aside0.mk (blk_drew BK804.out)
   replace BK823 := Aside0.mk (blk_drew BK823.out)
   replace HB := Aside0.mk (below_drew1 HB.out)
   obtain ⟨Ao31, co31, eo31⟩ := Kd.R_slice HO821.out
   (first | subst eo31 | (injection eo31 with f1_ f2_ f3_; have f4_ := f1_.symm; have f5_ := f3_.symm; clear f1_ f2_ f3_; subst f4_; subst f5_))
   have p824 : 0 ≤ (0 : Int) := (by omega)
   have q824 : 0 < (t819.length : Int) := of_decide_eq_true as_
   obtain ⟨ad824, e824, hx824_0, hx824_1, hx824_2, hx824_3⟩ := at_T32 (Kd.R_reads' HO821.out).2.2 0 p824 q824
   cases e824
   have qi824 : (0 < t819.length) = True := eq_true (by omega)
   (try rw [show ((0 : Int)).toNat = 0 from rfl] at hx824_0)
   (try rw [show 0 * 4 = 0 from rfl] at hx824_0)
   (try rw [Addr.add_zero'] at hx824_0)
   (try rw [show ((0 : Int)).toNat = 0 from rfl] at hx824_1)
   (try rw [show 0 * 4 = 0 from rfl] at hx824_1)
   (try rw [Addr.add_zero'] at hx824_1)
   (try rw [show ((0 : Int)).toNat = 0 from rfl] at hx824_2)
   (try rw [show 0 * 4 = 0 from rfl] at hx824_2)
   (try rw [Addr.add_zero'] at hx824_2)
   (try rw [show ((0 : Int)).toNat = 0 from rfl] at hx824_3)
   (try rw [show 0 * 4 = 0 from rfl] at hx824_3)
   (try rw [Addr.add_zero'] at hx824_3)
   replace p824 := eq_true p824
   replace q824 := eq_true q824
   refine start_ (n := 7) (S := fun w' => w'.cell? ⟨gb823, 0, none⟩ = some (.slice Ao22 t808.length co22) ∧ w'.cell? ⟨gb823, 1, none⟩ = some (.int .i64 t811) ∧ w'.cell? ⟨gb823, 2, none⟩ = some (.int .i64 t812) ∧ w'.cell? ⟨gb823, 3, none⟩ = some (.int .i64 t813) ∧ w'.cell? ⟨gb823, 4, none⟩ = some (.int .i64 t814) ∧ w'.cell? ⟨gb823, 5, none⟩ = some (.int .i64 t815) ∧ w'.cell? ⟨gb823, 6, none⟩ = some (.slice Ao28 t816.length co28) ∧ w'.cell? ad824 = some (.int .i64 ((rd_T32 t819 0).f0)) ∧ w'.cell? ⟨ad824.block, ad824.off + 1, none⟩ = some (.int .i64 ((rd_T32 t819 0).f1)) ∧ w'.cell? ⟨ad824.block, ad824.off + 2, none⟩ = some (.int .i64 ((rd_T32 t819 0).f2)) ∧ w'.cell? ⟨ad824.block, ad824.off + 3, none⟩ = some (.int .i64 ((rd_T32 t819 0).f3))) (ds := []) #[false, false, false, false, false, false, false] (by kernel_rfl) rfl rfl ⟨(blk_cell BK823.out 0).trans rfl, (blk_cell BK823.out 1).trans rfl, (blk_cell BK823.out 2).trans rfl, (blk_cell BK823.out 3).trans rfl, (blk_cell BK823.out 4).trans rfl, (blk_cell BK823.out 5).trans rfl, (blk_cell BK823.out 6).trans rfl, hx824_0, hx824_1, hx824_2, hx824_3⟩ (fun hHeld => ?_)
   generalize w29.drew = w30 at HO807 HO810 HO818 HO821 BK801 BK802 BK803 BK804 BK823 HB hx824_0 hx824_1 hx824_2 hx824_3 hHeld ⊢
   refine pure_ (i := 1) (N := some 23) (v := ?_) (a' := ?_) #[false, true, false, false, false, false, false] rfl rfl (by kernel_rfl) (fun _ _ _ h => h) (Or.inl ⟨by rfl, ?_⟩) ?_ ?_
   rotate_left
   ·intro w'
    go_simp
    with_reducible rfl
   rotate_left
   ·simp only [Act.put, List.setIfInBounds_toArray, List.set_cons_zero, List.set_cons_succ, i64_w, i32_w]
    rfl
   refine pure_ (i := 2) (N := some 24) (v := ?_) (a' := ?_) #[false, true, true, false, false, false, false] rfl rfl (by kernel_rfl) (fun _ _ _ h => h) (Or.inl ⟨by rfl, ?_⟩) ?_ ?_
   rotate_left
   ·intro w'
    go_simp
    with_reducible rfl
   rotate_left
   ·simp only [Act.put, List.setIfInBounds_toArray, List.set_cons_zero, List.set_cons_succ, i64_w, i32_w]
    rfl
   refine take_ (i := 0) (N := some 22) (v := ?_) (a' := ?_) #[true, true, true, false, false, false, false] rfl rfl (by kernel_rfl) (fun _ _ _ h => h) (Or.inl ⟨by rfl, ?_⟩) hHeld ?_ ?_
   rotate_left
   ·rintro w' ⟨s0, s1, s2, s3, s4, s5, s6, s7, s8, s9, s10⟩
    go_simp
    with_reducible rfl
   rotate_left
   ·simp only [Act.put, List.setIfInBounds_toArray, List.set_cons_zero, List.set_cons_succ, i64_w, i32_w]
    rfl
   refine take_ (i := 3) (N := some 25) (v := ?_) (a' := ?_) #[true, true, true, true, false, false, false] rfl rfl (by kernel_rfl) (fun _ _ _ h => h) (Or.inl ⟨by rfl, ?_⟩) hHeld ?_ ?_
   rotate_left
   ·rintro w' ⟨s0, s1, s2, s3, s4, s5, s6, s7, s8, s9, s10⟩
    go_simp
    with_reducible rfl
   rotate_left
   ·simp only [Act.put, List.setIfInBounds_toArray, List.set_cons_zero, List.set_cons_succ, i64_w, i32_w]
    rfl
   refine one_ (i := 4) (N := none) #[true, true, true, true, true, false, false] rfl rfl (by kernel_rfl) (by decide) (fun K hK => ?_)
   have hs32 : w30.cell? ⟨gb803, 0, none⟩ = some (.slice none 0 0) := (blk_cell BK803.out 0).trans rfl
   have hfs32 := blk_frozen BK803.out 0
   have hns32_0 := NB801_803.out
   have hns32_1 := NB802_803.out
   have hns32_3 := NB804_803.out
   have hns32_4 := NB823_803.out
   have hms32_0 := NB803_801.out
   have hms32_1 := NB803_802.out
   have hms32_3 := NB803_804.out
   have hms32_4 := NB803_823.out
   have hs33 : w30.cell? ⟨gb803, 1, none⟩ = some (.int .i64 0) := (blk_cell BK803.out 1).trans rfl
   have hfs33 := blk_frozen BK803.out 1
   have hns33_0 := NB801_803.out
   have hns33_1 := NB802_803.out
   have hns33_3 := NB804_803.out
   have hns33_4 := NB823_803.out
   have hms33_0 := NB803_801.out
   have hms33_1 := NB803_802.out
   have hms33_3 := NB803_804.out
   have hms33_4 := NB803_823.out
   have hs34 : w30.cell? ⟨gb803, 2, none⟩ = some (.int .i64 0) := (blk_cell BK803.out 2).trans rfl
   have hfs34 := blk_frozen BK803.out 2
   have hns34_0 := NB801_803.out
   have hns34_1 := NB802_803.out
   have hns34_3 := NB804_803.out
   have hns34_4 := NB823_803.out
   have hms34_0 := NB803_801.out
   have hms34_1 := NB803_802.out
   have hms34_3 := NB803_804.out
   have hms34_4 := NB803_823.out
   have hs35 : w30.cell? ⟨gb803, 3, none⟩ = some (.int .i64 0) := (blk_cell BK803.out 3).trans rfl
   have hfs35 := blk_frozen BK803.out 3
   have hns35_0 := NB801_803.out
   have hns35_1 := NB802_803.out
   have hns35_3 := NB804_803.out
   have hns35_4 := NB823_803.out
   have hms35_0 := NB803_801.out
   have hms35_1 := NB803_802.out
   have hms35_3 := NB803_804.out
   have hms35_4 := NB803_823.out
   have hs36 : w30.cell? ⟨gb803, 4, none⟩ = some (.int .i64 0) := (blk_cell BK803.out 4).trans rfl
   have hfs36 := blk_frozen BK803.out 4
   have hns36_0 := NB801_803.out
   have hns36_1 := NB802_803.out
   have hns36_3 := NB804_803.out
   have hns36_4 := NB823_803.out
   have hms36_0 := NB803_801.out
   have hms36_1 := NB803_802.out
   have hms36_3 := NB803_804.out
   have hms36_4 := NB803_823.out
   have hs37 : w30.cell? ⟨gb803, 5, none⟩ = some (.int .i64 0) := (blk_cell BK803.out 5).trans rfl
   have hfs37 := blk_frozen BK803.out 5
   have hns37_0 := NB801_803.out
   have hns37_1 := NB802_803.out
   have hns37_3 := NB804_803.out
   have hns37_4 := NB823_803.out
   have hms37_0 := NB803_801.out
   have hms37_1 := NB803_802.out
   have hms37_3 := NB803_804.out
   have hms37_4 := NB803_823.out
   have hs38 : w30.cell? ⟨gb803, 6, none⟩ = some (.slice none 0 0) := (blk_cell BK803.out 6).trans rfl
   have hfs38 := blk_frozen BK803.out 6
   have hns38_0 := NB801_803.out
   have hns38_1 := NB802_803.out
   have hns38_3 := NB804_803.out
   have hns38_4 := NB823_803.out
   have hms38_0 := NB803_801.out
   have hms38_1 := NB803_802.out
   have hms38_3 := NB803_804.out
   have hms38_4 := NB803_823.out
   refine skip_ (w1 := ?_) (by rfl) rfl ?_ ?_
   rotate_left
   ·go_simp
    rfl
   refine hK.out _ _ ⟨(by (with_reducible repeat (refine (cell_far (p := ⟨gb803, _, none⟩) NB823_803.out _).trans ?_)); exact hHeld.1), (by (with_reducible repeat (refine (cell_far (p := ⟨gb803, _, none⟩) NB823_803.out _).trans ?_)); exact hHeld.2.1), (by (with_reducible repeat (refine (cell_far (p := ⟨gb803, _, none⟩) NB823_803.out _).trans ?_)); exact hHeld.2.2.1), (by (with_reducible repeat (refine (cell_far (p := ⟨gb803, _, none⟩) NB823_803.out _).trans ?_)); exact hHeld.2.2.2.1), (by (with_reducible repeat (refine (cell_far (p := ⟨gb803, _, none⟩) NB823_803.out _).trans ?_)); exact hHeld.2.2.2.2.1), (by (with_reducible repeat (refine (cell_far (p := ⟨gb803, _, none⟩) NB823_803.out _).trans ?_)); exact hHeld.2.2.2.2.2.1), (by (with_reducible repeat (refine (cell_far (p := ⟨gb803, _, none⟩) NB823_803.out _).trans ?_)); exact hHeld.2.2.2.2.2.2.1), (by (with_reducible repeat (refine (cell_far (p := ⟨gb803, _, none⟩) (by first | exact Kd.own_blk (Kd.R_ne HO821.out BK803.out (by decide)) | (rw [add_block]; exact Kd.own_blk (Kd.R_ne HO821.out BK803.out (by decide))) | (show (Addr.add _ _).block ≠ _; rw [add_block]; exact Kd.own_blk (Kd.R_ne HO821.out BK803.out (by decide))) | (dsimp only; exact Kd.own_blk (Kd.R_ne HO821.out BK803.out (by decide)))) _).trans ?_)); exact hHeld.2.2.2.2.2.2.2.1), (by (with_reducible repeat (refine (cell_far (p := ⟨gb803, _, none⟩) (by first | exact Kd.own_blk (Kd.R_ne HO821.out BK803.out (by decide)) | (rw [add_block]; exact Kd.own_blk (Kd.R_ne HO821.out BK803.out (by decide))) | (show (Addr.add _ _).block ≠ _; rw [add_block]; exact Kd.own_blk (Kd.R_ne HO821.out BK803.out (by decide))) | (dsimp only; exact Kd.own_blk (Kd.R_ne HO821.out BK803.out (by decide)))) _).trans ?_)); exact hHeld.2.2.2.2.2.2.2.2.1), (by (with_reducible repeat (refine (cell_far (p := ⟨gb803, _, none⟩) (by first | exact Kd.own_blk (Kd.R_ne HO821.out BK803.out (by decide)) | (rw [add_block]; exact Kd.own_blk (Kd.R_ne HO821.out BK803.out (by decide))) | (show (Addr.add _ _).block ≠ _; rw [add_block]; exact Kd.own_blk (Kd.R_ne HO821.out BK803.out (by decide))) | (dsimp only; exact Kd.own_blk (Kd.R_ne HO821.out BK803.out (by decide)))) _).trans ?_)); exact hHeld.2.2.2.2.2.2.2.2.2.1), (by (with_reducible repeat (refine (cell_far (p := ⟨gb803, _, none⟩) (by first | exact Kd.own_blk (Kd.R_ne HO821.out BK803.out (by decide)) | (rw [add_block]; exact Kd.own_blk (Kd.R_ne HO821.out BK803.out (by decide))) | (show (Addr.add _ _).block ≠ _; rw [add_block]; exact Kd.own_blk (Kd.R_ne HO821.out BK803.out (by decide))) | (dsimp only; exact Kd.own_blk (Kd.R_ne HO821.out BK803.out (by decide)))) _).trans ?_)); exact hHeld.2.2.2.2.2.2.2.2.2.2)⟩ (fun hHeld => ?_)
   clear hK K
   refine one_ (i := 5) (N := none) #[true, true, true, true, true, true, false] rfl rfl (by kernel_rfl) (by decide) (fun K hK => ?_)
   have hs39 : w30.cell? ⟨gb804, 0, none⟩ = some (.int .i64 0) := (blk_cell BK804.out 0).trans rfl
   have hfs39 := blk_frozen BK804.out 0
   have hns39_0 := NB801_804.out
   have hns39_1 := NB802_804.out
   have hns39_2 := NB803_804.out
   have hns39_4 := NB823_804.out
   have hms39_0 := NB804_801.out
   have hms39_1 := NB804_802.out
   have hms39_2 := NB804_803.out
   have hms39_4 := NB804_823.out
   have hs40 : w30.cell? ⟨gb804, 1, none⟩ = some (.int .i64 0) := (blk_cell BK804.out 1).trans rfl
   have hfs40 := blk_frozen BK804.out 1
   have hns40_0 := NB801_804.out
   have hns40_1 := NB802_804.out
   have hns40_2 := NB803_804.out
   have hns40_4 := NB823_804.out
   have hms40_0 := NB804_801.out
   have hms40_1 := NB804_802.out
   have hms40_2 := NB804_803.out
   have hms40_4 := NB804_823.out
   have hs41 : w30.cell? ⟨gb804, 2, none⟩ = some (.int .i64 0) := (blk_cell BK804.out 2).trans rfl
   have hfs41 := blk_frozen BK804.out 2
   have hns41_0 := NB801_804.out
   have hns41_1 := NB802_804.out
   have hns41_2 := NB803_804.out
   have hns41_4 := NB823_804.out
   have hms41_0 := NB804_801.out
   have hms41_1 := NB804_802.out
   have hms41_2 := NB804_803.out
   have hms41_4 := NB804_823.out
   have hs42 : w30.cell? ⟨gb804, 3, none⟩ = some (.int .i64 0) := (blk_cell BK804.out 3).trans rfl
   have hfs42 := blk_frozen BK804.out 3
   have hns42_0 := NB801_804.out
   have hns42_1 := NB802_804.out
   have hns42_2 := NB803_804.out
   have hns42_4 := NB823_804.out
   have hms42_0 := NB804_801.out
   have hms42_1 := NB804_802.out
   have hms42_2 := NB804_803.out
   have hms42_4 := NB804_823.out
   first | (generalize hW9_ : World.setCell _ _ _ = W9_; refine skip_ (w1 := ?_) (by rfl) rfl ?_ ?_ <;> subst hW9_) | refine skip_ (w1 := ?_) (by rfl) rfl ?_ ?_
   rotate_left
   ·go_simp
    rfl
   refine hK.out _ _ ⟨(by (with_reducible repeat (refine (cell_far (p := ⟨gb804, _, none⟩) NB823_804.out _).trans ?_)); exact hHeld.1), (by (with_reducible repeat (refine (cell_far (p := ⟨gb804, _, none⟩) NB823_804.out _).trans ?_)); exact hHeld.2.1), (by (with_reducible repeat (refine (cell_far (p := ⟨gb804, _, none⟩) NB823_804.out _).trans ?_)); exact hHeld.2.2.1), (by (with_reducible repeat (refine (cell_far (p := ⟨gb804, _, none⟩) NB823_804.out _).trans ?_)); exact hHeld.2.2.2.1), (by (with_reducible repeat (refine (cell_far (p := ⟨gb804, _, none⟩) NB823_804.out _).trans ?_)); exact hHeld.2.2.2.2.1), (by (with_reducible repeat (refine (cell_far (p := ⟨gb804, _, none⟩) NB823_804.out _).trans ?_)); exact hHeld.2.2.2.2.2.1), (by (with_reducible repeat (refine (cell_far (p := ⟨gb804, _, none⟩) NB823_804.out _).trans ?_)); exact hHeld.2.2.2.2.2.2.1), (by (with_reducible repeat (refine (cell_far (p := ⟨gb804, _, none⟩) (by first | exact Kd.own_blk (Kd.R_away HO821.out (fun _ hk => hk)) | (rw [add_block]; exact Kd.own_blk (Kd.R_away HO821.out (fun _ hk => hk))) | (show (Addr.add _ _).block ≠ _; rw [add_block]; exact Kd.own_blk (Kd.R_away HO821.out (fun _ hk => hk))) | (dsimp only; exact Kd.own_blk (Kd.R_away HO821.out (fun _ hk => hk)))) _).trans ?_)); exact hHeld.2.2.2.2.2.2.2.1), (by (with_reducible repeat (refine (cell_far (p := ⟨gb804, _, none⟩) (by first | exact Kd.own_blk (Kd.R_away HO821.out (fun _ hk => hk)) | (rw [add_block]; exact Kd.own_blk (Kd.R_away HO821.out (fun _ hk => hk))) | (show (Addr.add _ _).block ≠ _; rw [add_block]; exact Kd.own_blk (Kd.R_away HO821.out (fun _ hk => hk))) | (dsimp only; exact Kd.own_blk (Kd.R_away HO821.out (fun _ hk => hk)))) _).trans ?_)); exact hHeld.2.2.2.2.2.2.2.2.1), (by (with_reducible repeat (refine (cell_far (p := ⟨gb804, _, none⟩) (by first | exact Kd.own_blk (Kd.R_away HO821.out (fun _ hk => hk)) | (rw [add_block]; exact Kd.own_blk (Kd.R_away HO821.out (fun _ hk => hk))) | (show (Addr.add _ _).block ≠ _; rw [add_block]; exact Kd.own_blk (Kd.R_away HO821.out (fun _ hk => hk))) | (dsimp only; exact Kd.own_blk (Kd.R_away HO821.out (fun _ hk => hk)))) _).trans ?_)); exact hHeld.2.2.2.2.2.2.2.2.2.1), (by (with_reducible repeat (refine (cell_far (p := ⟨gb804, _, none⟩) (by first | exact Kd.own_blk (Kd.R_away HO821.out (fun _ hk => hk)) | (rw [add_block]; exact Kd.own_blk (Kd.R_away HO821.out (fun _ hk => hk))) | (show (Addr.add _ _).block ≠ _; rw [add_block]; exact Kd.own_blk (Kd.R_away HO821.out (fun _ hk => hk))) | (dsimp only; exact Kd.own_blk (Kd.R_away HO821.out (fun _ hk => hk)))) _).trans ?_)); exact hHeld.2.2.2.2.2.2.2.2.2.2)⟩ (fun hHeld => ?_)
   clear hK K
   refine pure_ (i := 6) (N := some 6) (v := ?_) (a' := ?_) #[true, true, true, true, true, true, true] rfl rfl (by kernel_rfl) (fun _ _ _ h => h) (Or.inl ⟨by rfl, ?_⟩) ?_ ?_
   rotate_left
   ·intro w'
    go_simp
    with_reducible rfl
   rotate_left
   ·simp only [Act.put, List.setIfInBounds_toArray, List.set_cons_zero, List.set_cons_succ, i64_w, i32_w]
    rfl
   refine done_ (by kernel_rfl) ?_
   try go_wp2
   refine bodyPost_ret (results_list (rs := [.cell 4 70, .cell 5 32, .tmp 6]) rfl (by simp) (.cell gb803 70 #[.slice Ao22 t808.length co22, .int .i64 t811, .int .i64 t812, .int .i64 t813, .int .i64 t814, .int .i64 t815, .slice Ao28 t816.length co28] (0, 0) _ rfl (by (with_reducible repeat first | apply kb1_ | apply kb2_ | apply kb3_); refine blk_far ?_ NB803_804.out _; (with_reducible repeat first | apply kb1_ | apply kb2_ | apply kb3_); refine blk_far ?_ NB803_804.out _; (with_reducible repeat first | apply kb1_ | apply kb2_ | apply kb3_); refine blk_far ?_ NB803_804.out _; (with_reducible repeat first | apply kb1_ | apply kb2_ | apply kb3_); refine blk_far ?_ NB803_804.out _; (with_reducible repeat first | apply kb1_ | apply kb2_ | apply kb3_); refine blk_put (cs := #[.slice Ao22 t808.length co22, .int .i64 t811, .int .i64 t812, .int .i64 t813, .int .i64 t814, .int .i64 t815, .slice none 0 0]) ?_ 6 _ rfl; (with_reducible repeat first | apply kb1_ | apply kb2_ | apply kb3_); refine blk_put (cs := #[.slice Ao22 t808.length co22, .int .i64 t811, .int .i64 t812, .int .i64 t813, .int .i64 t814, .int .i64 0, .slice none 0 0]) ?_ 5 _ rfl; (with_reducible repeat first | apply kb1_ | apply kb2_ | apply kb3_); refine blk_put (cs := #[.slice Ao22 t808.length co22, .int .i64 t811, .int .i64 t812, .int .i64 t813, .int .i64 0, .int .i64 0, .slice none 0 0]) ?_ 4 _ rfl; (with_reducible repeat first | apply kb1_ | apply kb2_ | apply kb3_); refine blk_put (cs := #[.slice Ao22 t808.length co22, .int .i64 t811, .int .i64 t812, .int .i64 0, .int .i64 0, .int .i64 0, .slice none 0 0]) ?_ 3 _ rfl; (with_reducible repeat first | apply kb1_ | apply kb2_ | apply kb3_); refine blk_put (cs := #[.slice Ao22 t808.length co22, .int .i64 t811, .int .i64 0, .int .i64 0, .int .i64 0, .int .i64 0, .slice none 0 0]) ?_ 2 _ rfl; (with_reducible repeat first | apply kb1_ | apply kb2_ | apply kb3_); refine blk_put (cs := #[.slice Ao22 t808.length co22, .int .i64 0, .int .i64 0, .int .i64 0, .int .i64 0, .int .i64 0, .slice none 0 0]) ?_ 1 _ rfl; (with_reducible repeat first | apply kb1_ | apply kb2_ | apply kb3_); refine blk_put (cs := #[.slice none 0 0, .int .i64 0, .int .i64 0, .int .i64 0, .int .i64 0, .int .i64 0, .slice none 0 0]) ?_ 0 _ rfl; (with_reducible repeat first | apply kb1_ | apply kb2_ | apply kb3_); exact BK803.out) Try.underlying70 rfl (by kernel_rfl) (.cell gb804 32 #[.int .i64 ((rd_T32 t819 0).f0), .int .i64 ((rd_T32 t819 0).f1), .int .i64 ((rd_T32 t819 0).f2), .int .i64 ((rd_T32 t819 0).f3)] (0, 0) _ rfl (by (with_reducible repeat first | apply kb1_ | apply kb2_ | apply kb3_); refine blk_put (cs := #[.int .i64 ((rd_T32 t819 0).f0), .int .i64 ((rd_T32 t819 0).f1), .int .i64 ((rd_T32 t819 0).f2), .int .i64 0]) ?_ 3 _ rfl; (with_reducible repeat first | apply kb1_ | apply kb2_ | apply kb3_); refine blk_put (cs := #[.int .i64 ((rd_T32 t819 0).f0), .int .i64 ((rd_T32 t819 0).f1), .int .i64 0, .int .i64 0]) ?_ 2 _ rfl; (with_reducible repeat first | apply kb1_ | apply kb2_ | apply kb3_); refine blk_put (cs := #[.int .i64 ((rd_T32 t819 0).f0), .int .i64 0, .int .i64 0, .int .i64 0]) ?_ 1 _ rfl; (with_reducible repeat first | apply kb1_ | apply kb2_ | apply kb3_); refine blk_put (cs := #[.int .i64 0, .int .i64 0, .int .i64 0, .int .i64 0]) ?_ 0 _ rfl; (with_reducible repeat first | apply kb1_ | apply kb2_ | apply kb3_); refine blk_far ?_ NB804_803.out _; (with_reducible repeat first | apply kb1_ | apply kb2_ | apply kb3_); refine blk_far ?_ NB804_803.out _; (with_reducible repeat first | apply kb1_ | apply kb2_ | apply kb3_); refine blk_far ?_ NB804_803.out _; (with_reducible repeat first | apply kb1_ | apply kb2_ | apply kb3_); refine blk_far ?_ NB804_803.out _; (with_reducible repeat first | apply kb1_ | apply kb2_ | apply kb3_); refine blk_far ?_ NB804_803.out _; (with_reducible repeat first | apply kb1_ | apply kb2_ | apply kb3_); refine blk_far ?_ NB804_803.out _; (with_reducible repeat first | apply kb1_ | apply kb2_ | apply kb3_); refine blk_far ?_ NB804_803.out _; (with_reducible repeat first | apply kb1_ | apply kb2_ | apply kb3_); exact BK804.out) Try.underlying32 rfl (by kernel_rfl) (.tmp .nil)))) rfl ?_
   exact ⟨_, _, er_, by (with_reducible repeat first | apply ks1_ | apply ks2_ | apply ks3_); exact Kd.S_mono (Kd.S_far (p := ⟨gb804, 3, none⟩) (Kd.S_far (p := ⟨gb804, 2, none⟩) (Kd.S_far (p := ⟨gb804, 1, none⟩) (Kd.S_far (p := ⟨gb804, 0, none⟩) (Kd.S_far (p := ⟨gb803, 6, none⟩) (Kd.S_far (p := ⟨gb803, 5, none⟩) (Kd.S_far (p := ⟨gb803, 4, none⟩) (Kd.S_far (p := ⟨gb803, 3, none⟩) (Kd.S_far (p := ⟨gb803, 2, none⟩) (Kd.S_far (p := ⟨gb803, 1, none⟩) (Kd.S_far (p := ⟨gb803, 0, none⟩) (Kd.S_types (Kd.S_types HO810.out BK803.out (by decide)) BK804.out (by decide)) (fun _ hk => hk.1.2) (.slice Ao22 t808.length co22)) (fun _ hk => hk.1.2) (.int .i64 t811)) (fun _ hk => hk.1.2) (.int .i64 t812)) (fun _ hk => hk.1.2) (.int .i64 t813)) (fun _ hk => hk.1.2) (.int .i64 t814)) (fun _ hk => hk.1.2) (.int .i64 t815)) (fun _ hk => hk.1.2) (.slice Ao28 t816.length co28)) (fun _ hk => hk.2) (.int .i64 ((rd_T32 t819 0).f0))) (fun _ hk => hk.2) (.int .i64 ((rd_T32 t819 0).f1))) (fun _ hk => hk.2) (.int .i64 ((rd_T32 t819 0).f2))) (fun _ hk => hk.2) (.int .i64 ((rd_T32 t819 0).f3))) (fun _ hk => trivial), by (with_reducible repeat first | apply kr1_ | apply kr2_ | apply kr3_); exact Kd.R_mono (Kd.R_far (p := ⟨gb804, 3, none⟩) (Kd.R_far (p := ⟨gb804, 2, none⟩) (Kd.R_far (p := ⟨gb804, 1, none⟩) (Kd.R_far (p := ⟨gb804, 0, none⟩) (Kd.R_far (p := ⟨gb803, 6, none⟩) (Kd.R_far (p := ⟨gb803, 5, none⟩) (Kd.R_far (p := ⟨gb803, 4, none⟩) (Kd.R_far (p := ⟨gb803, 3, none⟩) (Kd.R_far (p := ⟨gb803, 2, none⟩) (Kd.R_far (p := ⟨gb803, 1, none⟩) (Kd.R_far (p := ⟨gb803, 0, none⟩) (Kd.R_types (Kd.R_types HO818.out BK803.out (by decide)) BK804.out (by decide)) (fun _ hk => hk.1.2) (.slice Ao22 t808.length co22)) (fun _ hk => hk.1.2) (.int .i64 t811)) (fun _ hk => hk.1.2) (.int .i64 t812)) (fun _ hk => hk.1.2) (.int .i64 t813)) (fun _ hk => hk.1.2) (.int .i64 t814)) (fun _ hk => hk.1.2) (.int .i64 t815)) (fun _ hk => hk.1.2) (.slice Ao28 t816.length co28)) (fun _ hk => hk.2) (.int .i64 ((rd_T32 t819 0).f0))) (fun _ hk => hk.2) (.int .i64 ((rd_T32 t819 0).f1))) (fun _ hk => hk.2) (.int .i64 ((rd_T32 t819 0).f2))) (fun _ hk => hk.2) (.int .i64 ((rd_T32 t819 0).f3))) (fun _ hk => trivial), by repeat (first | (with_reducible first | exact HB.out | apply below_alloc | apply pw_below_drewN | apply below_drew1 | refine below_set ?_ GE801.out | refine below_set ?_ GE802.out | refine below_set ?_ GE803.out | refine below_set ?_ GE804.out | refine below_set ?_ GE823.out) | exact HB.out)⟩
  ·rw [if_neg c5] at H
   exact absurd H (by simp)
 ·replace c4 := Bool.eq_false_iff.mpr c4
  subst c4
  rw [if_neg (show ¬ (false = true) by decide)] at H
  simp only [Option.some.injEq, Prod.mk.injEq] at H
  obtain ⟨rfl, rfl, rfl, rfl, rfl, rfl, rfl, rfl, rfl, rfl, rfl, rfl⟩ := H
  go_enter Try.func39, Try.ntmps39
  go_wp2_with (first | ((with_reducible refine gate_dst (N := 2) rfl ?_); refine box_event ?hg (N := 2) ?hd (cs := #[.slice A0_0 l0_0.length c0_0, .int .i64 a0_1, .int .i64 a0_2, .int .i64 a0_3, .int .i64 a0_4, .int .i64 a0_5, .slice A0_6 l0_6.length c0_6]) (t := 70) ?hr ?_; (case hd => rfl); (case hg => rfl); (case hr => exact gs_); intro gb801 hg w43 hbox hb; have BK801 := Aside0.mk (hbox); have GW801 := gE_ HB hg; have GE801 := gE_ HB hg; replace HB := Aside0.mk (below_step (by repeat (first | (with_reducible first | exact HB.out | apply ba_ | apply bn_ | apply bd_) | exact HB.out)) hb); clear hb hbox hg) | ((with_reducible refine gate_dst (N := 3) rfl ?_); refine box_event ?hg (N := 3) ?hd (cs := #[.int .i64 a1_0, .int .i64 a1_1]) (t := 74) ?hr ?_; (case hd => rfl); (case hg => rfl); (case hr => exact gs_); intro gb802 hg w44 hbox hb; have BK802 := Aside0.mk (hbox); have GW802 := gE_ HB hg; have GE802 := gE_ HB hg; replace HB := Aside0.mk (below_step (by repeat (first | (with_reducible first | exact HB.out | apply ba_ | apply bn_ | apply bd_ | refine bset_ ?_ (by assumption)) | exact HB.out)) hb); have NB801_802 := nB_ BK801 hg; have NB802_801 := nA_ BK801 hg; replace BK801 := bB_ BK801 hb; clear hb hbox hg) | ((with_reducible refine gate_dst (N := 4) rfl ?_); refine box_event ?hg (N := 4) ?hd (cs := #[.slice none 0 0, .int .i64 0, .int .i64 0, .int .i64 0, .int .i64 0, .int .i64 0, .slice none 0 0]) (t := 70) ?hr ?_; (case hd => rfl); (case hg => rfl); (case hr => exact gs_); intro gb803 hg w45 hbox hb; have BK803 := Aside0.mk (hbox); have GW803 := gE_ HB hg; have GE803 := gE_ HB hg; replace HB := Aside0.mk (below_step (by repeat (first | (with_reducible first | exact HB.out | apply ba_ | apply bn_ | apply bd_ | refine bset_ ?_ (by assumption)) | exact HB.out)) hb); have NB801_803 := nB_ BK801 hg; have NB803_801 := nA_ BK801 hg; replace BK801 := bB_ BK801 hb; have NB802_803 := nB_ BK802 hg; have NB803_802 := nA_ BK802 hg; replace BK802 := bB_ BK802 hb; clear hb hbox hg) | ((with_reducible refine gate_dst (N := 5) rfl ?_); refine box_event ?hg (N := 5) ?hd (cs := #[.int .i64 0, .int .i64 0, .int .i64 0, .int .i64 0]) (t := 32) ?hr ?_; (case hd => rfl); (case hg => rfl); (case hr => exact gs_); intro gb804 hg w46 hbox hb; have BK804 := Aside0.mk (hbox); have GW804 := gE_ HB hg; have GE804 := gE_ HB hg; replace HB := Aside0.mk (below_step (by repeat (first | (with_reducible first | exact HB.out | apply ba_ | apply bn_ | apply bd_ | refine bset_ ?_ (by assumption)) | exact HB.out)) hb); have NB801_804 := nB_ BK801 hg; have NB804_801 := nA_ BK801 hg; replace BK801 := bB_ BK801 hb; have NB802_804 := nB_ BK802 hg; have NB804_802 := nA_ BK802 hg; replace BK802 := bB_ BK802 hb; have NB803_804 := nB_ BK803 hg; have NB804_803 := nA_ BK803 hg; replace BK803 := bB_ BK803 hb; clear hb hbox hg; have hnb47 := NB801_802.out; have hnc47 := NB802_801.out; have hnb48 := NB801_803.out; have hnc48 := NB803_801.out; have hnb49 := NB801_804.out; have hnc49 := NB804_801.out; have hcz50_0 : w46.cell? ⟨gb801, 0, none⟩ = some (.slice A0_0 l0_0.length c0_0) := (blk_cell BK801.out 0).trans rfl; have hcz50_1 : w46.cell? ⟨gb801, 1, none⟩ = some (.int .i64 a0_1) := (blk_cell BK801.out 1).trans rfl; have hcz50_2 : w46.cell? ⟨gb801, 2, none⟩ = some (.int .i64 a0_2) := (blk_cell BK801.out 2).trans rfl; have hcz50_3 : w46.cell? ⟨gb801, 3, none⟩ = some (.int .i64 a0_3) := (blk_cell BK801.out 3).trans rfl; have hcz50_4 : w46.cell? ⟨gb801, 4, none⟩ = some (.int .i64 a0_4) := (blk_cell BK801.out 4).trans rfl; have hcz50_5 : w46.cell? ⟨gb801, 5, none⟩ = some (.int .i64 a0_5) := (blk_cell BK801.out 5).trans rfl; have hcz50_6 : w46.cell? ⟨gb801, 6, none⟩ = some (.slice A0_6 l0_6.length c0_6) := (blk_cell BK801.out 6).trans rfl; have hfz50_0 := blk_frozen BK801.out 0; have hfz50_1 := blk_frozen BK801.out 1; have hfz50_2 := blk_frozen BK801.out 2; have hfz50_3 := blk_frozen BK801.out 3; have hfz50_4 := blk_frozen BK801.out 4; have hfz50_5 := blk_frozen BK801.out 5; have hfz50_6 := blk_frozen BK801.out 6; have hnb51 := NB802_803.out; have hnc51 := NB803_802.out; have hnb52 := NB802_804.out; have hnc52 := NB804_802.out; have hcz53_0 : w46.cell? ⟨gb802, 0, none⟩ = some (.int .i64 a1_0) := (blk_cell BK802.out 0).trans rfl; have hcz53_1 : w46.cell? ⟨gb802, 1, none⟩ = some (.int .i64 a1_1) := (blk_cell BK802.out 1).trans rfl; have hfz53_0 := blk_frozen BK802.out 0; have hfz53_1 := blk_frozen BK802.out 1) | ((with_reducible refine gate_dst (N := 13) rfl ?_); refine Kd.R_lit k74 _ 74 ?hg (N := 13) ?hd (xs := ([(⟨a1_0, a1_1⟩ : S74)] : List (S74))) (inner := [.int .i64 a1_0, .int .i64 a1_1]) (ok := fun _ => True) (okp := fun _ => True) ?hr ?hp (fun _ hk => hk) trivial (Below.refl _ _) (Nat.le_refl _) (by simp) ?_; (case hd => rfl); (case hg => rfl); (case hr => exact gs_); (case hp => exact (Reps.c2 (show Kd.M k74 _ _ _ (⟨a1_0, a1_1⟩ : S74) [.int .i64 a1_0, .int .i64 a1_1] from (k74_mkM _ _ _ (⟨a1_0, a1_1⟩ : S74) )) (Reps.none _ _))); intro v806 w54 ho55 hb hg_ hnew_; clear hg_ hnew_; (first | rw [← Ny805.out] at ho55 | (simp only [Int.reduceToNat] at ho55; rw [← Ny805.out] at ho55)); have HO807 := Aside0.mk (rL_ (Kd.R_newB ho55 (g := gb802) (o := .cells #[.int .i64 a1_0, .int .i64 a1_1] 74 (0, 0)) (bK_ BK802)) HB); replace BK801 := bB_ BK801 hb; replace BK802 := bB_ BK802 hb; replace BK803 := bB_ BK803 hb; replace BK804 := bB_ BK804 hb; replace HB := Aside0.mk (below_step (by repeat (first | (with_reducible first | exact HB.out | apply ba_ | apply bn_ | apply bd_ | refine bset_ ?_ (by assumption)) | exact HB.out)) hb); clear hb ho55; obtain ⟨Ao56, co56, eo56⟩ := Kd.R_slice HO807.out; subst eo56) | ((with_reducible refine gate_callee (f := 49) rfl ?_); refine goesL_ (some 14) rfl rfl Try.func49 (by kernel_rfl) rfl #[.agg #[.slice A0_0 l0_0.length c0_0, .int .i64 a0_1, .int .i64 a0_2, .int .i64 a0_3, .int .i64 a0_4, .int .i64 a0_5, .slice A0_6 l0_6.length c0_6], .slice Ao56 y805.length co56] rfl ar_ ?_; (with_reducible refine (impl_GiveAll.calls k _ _ l0_0 a0_1 a0_2 a0_3 a0_4 a0_5 _ _ l0_6 _ _ y805 t808 t811 t812 t813 t814 t815 t816 t819 false _ ?side1 ?side2 ?side3 ?side4 ?side5 ?side6 A3.out).mono ?_); (case side1 => repeat (first | exact (Kd.C_below HR0_0.out HB.out) | (with_reducible refine Kd.C_alloc ?_ _) | (with_reducible refine Kd.C_drewN ?_ _) | (with_reducible refine Kd.C_drew ?_))); (case side2 => exact HC0_0.out); (case side3 => repeat (first | exact (Kd.C_below HR0_6.out HB.out) | (with_reducible refine Kd.C_alloc ?_ _) | (with_reducible refine Kd.C_drewN ?_ _) | (with_reducible refine Kd.C_drew ?_))); (case side4 => exact HC0_6.out); (case side5 => repeat (first | exact (Kd.R_reads' HO807.out).2.2 | (with_reducible refine Kd.C_alloc ?_ _) | (with_reducible refine Kd.C_drewN ?_ _) | (with_reducible refine Kd.C_drew ?_))); (case side6 => exact (Kd.R_reads' HO807.out).2.1); rintro e w57 ⟨v809, v817, v820, rfl, ho0, ho1, ho2, hb⟩; refine ⟨_, rfl, ?_⟩; replace HO807 := Aside0.mk (Kd.R_below (rK_ HO807) hb); have HO810 := Aside0.mk (sL_ ho0 HB); have HO818 := Aside0.mk (rL_ ho1 HB); have HO821 := Aside0.mk (rL_ (Kd.R_newB ho2 (g := gb804) (o := .cells #[.int .i64 0, .int .i64 0, .int .i64 0, .int .i64 0] 32 (0, 0)) (bK_ BK804)) HB); replace BK801 := bB_ BK801 hb; replace BK802 := bB_ BK802 hb; replace BK803 := bB_ BK803 hb; replace BK804 := bB_ BK804 hb; replace HB := Aside0.mk (below_step (by repeat (first | (with_reducible first | exact HB.out | apply ba_ | apply bn_ | apply bd_ | refine bset_ ?_ (by assumption)) | exact HB.out)) hb); (try clear hb); (try clear hb2); (try clear hk); (try clear hi); (try clear ho0); (try clear ho1); (try clear ho2)) | ((with_reducible refine gate_dst (N := 7) rfl ?_); refine box_event ?hg (N := 7) ?hd (cs := #[.slice none 0 0, .int .i64 0, .int .i64 0, .int .i64 0, .int .i64 0, .int .i64 0, .slice none 0 0]) (t := 70) ?hr ?_; (case hd => rfl); (case hg => rfl); (case hr => exact gs_); intro gb823 hg w58 hbox hb; replace HO807 := Aside0.mk (Kd.R_below (rK_ HO807) hb); replace HO810 := Aside0.mk (Kd.S_below (sK_ HO810) hb); replace HO818 := Aside0.mk (Kd.R_below (rK_ HO818) hb); replace HO821 := Aside0.mk (Kd.R_below (rK_ HO821) hb); have BK823 := Aside0.mk (hbox); have GW823 := gE_ HB hg; have GE823 := gE_ HB hg; replace HB := Aside0.mk (below_step (by repeat (first | (with_reducible first | exact HB.out | apply ba_ | apply bn_ | apply bd_ | refine bset_ ?_ (by assumption)) | exact HB.out)) hb); have NB801_823 := nB_ BK801 hg; have NB823_801 := nA_ BK801 hg; replace BK801 := bB_ BK801 hb; have NB802_823 := nB_ BK802 hg; have NB823_802 := nA_ BK802 hg; replace BK802 := bB_ BK802 hb; have NB803_823 := nB_ BK803 hg; have NB823_803 := nA_ BK803 hg; replace BK803 := bB_ BK803 hb; have NB804_823 := nB_ BK804 hg; have NB823_804 := nA_ BK804 hg; replace BK804 := bB_ BK804 hb; clear hb hbox hg; obtain ⟨Ao59, co59, eo59⟩ := Kd.S_slice HO810.out; subst eo59; have hnb60 := NB823_801.out; have hnc60 := NB801_823.out; have hnb61 := NB823_802.out; have hnc61 := NB802_823.out; have hnb62 := NB823_803.out; have hnc62 := NB803_823.out; have hnb63 := NB823_804.out; have hnc63 := NB804_823.out; have hcz64_0 : w58.cell? ⟨gb823, 0, none⟩ = some (.slice none 0 0) := (blk_cell BK823.out 0).trans rfl; have hcz64_1 : w58.cell? ⟨gb823, 1, none⟩ = some (.int .i64 0) := (blk_cell BK823.out 1).trans rfl; have hcz64_2 : w58.cell? ⟨gb823, 2, none⟩ = some (.int .i64 0) := (blk_cell BK823.out 2).trans rfl; have hcz64_3 : w58.cell? ⟨gb823, 3, none⟩ = some (.int .i64 0) := (blk_cell BK823.out 3).trans rfl; have hcz64_4 : w58.cell? ⟨gb823, 4, none⟩ = some (.int .i64 0) := (blk_cell BK823.out 4).trans rfl; have hcz64_5 : w58.cell? ⟨gb823, 5, none⟩ = some (.int .i64 0) := (blk_cell BK823.out 5).trans rfl; have hcz64_6 : w58.cell? ⟨gb823, 6, none⟩ = some (.slice none 0 0) := (blk_cell BK823.out 6).trans rfl; have hfz64_0 := blk_frozen BK823.out 0; have hfz64_1 := blk_frozen BK823.out 1; have hfz64_2 := blk_frozen BK823.out 2; have hfz64_3 := blk_frozen BK823.out 3; have hfz64_4 := blk_frozen BK823.out 4; have hfz64_5 := blk_frozen BK823.out 5; have hfz64_6 := blk_frozen BK823.out 6; obtain ⟨Ao65, co65, eo65⟩ := Kd.R_slice HO818.out; subst eo65; have hnb66 := NB803_804.out; have hnc66 := NB804_803.out; have hcz67_0 : w58.cell? ⟨gb803, 0, none⟩ = some (.slice none 0 0) := (blk_cell BK803.out 0).trans rfl; have hcz67_1 : w58.cell? ⟨gb803, 1, none⟩ = some (.int .i64 0) := (blk_cell BK803.out 1).trans rfl; have hcz67_2 : w58.cell? ⟨gb803, 2, none⟩ = some (.int .i64 0) := (blk_cell BK803.out 2).trans rfl; have hcz67_3 : w58.cell? ⟨gb803, 3, none⟩ = some (.int .i64 0) := (blk_cell BK803.out 3).trans rfl; have hcz67_4 : w58.cell? ⟨gb803, 4, none⟩ = some (.int .i64 0) := (blk_cell BK803.out 4).trans rfl; have hcz67_5 : w58.cell? ⟨gb803, 5, none⟩ = some (.int .i64 0) := (blk_cell BK803.out 5).trans rfl; have hcz67_6 : w58.cell? ⟨gb803, 6, none⟩ = some (.slice none 0 0) := (blk_cell BK803.out 6).trans rfl; have hfz67_0 := blk_frozen BK803.out 0; have hfz67_1 := blk_frozen BK803.out 1; have hfz67_2 := blk_frozen BK803.out 2; have hfz67_3 := blk_frozen BK803.out 3; have hfz67_4 := blk_frozen BK803.out 4; have hfz67_5 := blk_frozen BK803.out 5; have hfz67_6 := blk_frozen BK803.out 6; have hcz68_0 : w58.cell? ⟨gb804, 0, none⟩ = some (.int .i64 0) := (blk_cell BK804.out 0).trans rfl; have hcz68_1 : w58.cell? ⟨gb804, 1, none⟩ = some (.int .i64 0) := (blk_cell BK804.out 1).trans rfl; have hcz68_2 : w58.cell? ⟨gb804, 2, none⟩ = some (.int .i64 0) := (blk_cell BK804.out 2).trans rfl; have hcz68_3 : w58.cell? ⟨gb804, 3, none⟩ = some (.int .i64 0) := (blk_cell BK804.out 3).trans rfl; have hfz68_0 := blk_frozen BK804.out 0; have hfz68_1 := blk_frozen BK804.out 1; have hfz68_2 := blk_frozen BK804.out 2; have hfz68_3 := blk_frozen BK804.out 3))
  refine bodyPost_ret (results_list (rs := [.cell 4 70, .cell 5 32, .tmp 6]) rfl (by simp) (.cell gb803 70 #[.slice none 0 0, .int .i64 0, .int .i64 0, .int .i64 0, .int .i64 0, .int .i64 0, .slice none 0 0] (0, 0) _ rfl (by (with_reducible repeat first | apply kb1_ | apply kb2_ | apply kb3_); refine blk_far ?_ NB803_804.out _; (with_reducible repeat first | apply kb1_ | apply kb2_ | apply kb3_); refine blk_far ?_ NB803_804.out _; (with_reducible repeat first | apply kb1_ | apply kb2_ | apply kb3_); refine blk_far ?_ NB803_804.out _; (with_reducible repeat first | apply kb1_ | apply kb2_ | apply kb3_); refine blk_far ?_ NB803_804.out _; (with_reducible repeat first | apply kb1_ | apply kb2_ | apply kb3_); refine blk_put (cs := #[.slice none 0 0, .int .i64 0, .int .i64 0, .int .i64 0, .int .i64 0, .int .i64 0, .slice none 0 0]) ?_ 6 _ rfl; (with_reducible repeat first | apply kb1_ | apply kb2_ | apply kb3_); refine blk_put (cs := #[.slice none 0 0, .int .i64 0, .int .i64 0, .int .i64 0, .int .i64 0, .int .i64 0, .slice none 0 0]) ?_ 5 _ rfl; (with_reducible repeat first | apply kb1_ | apply kb2_ | apply kb3_); refine blk_put (cs := #[.slice none 0 0, .int .i64 0, .int .i64 0, .int .i64 0, .int .i64 0, .int .i64 0, .slice none 0 0]) ?_ 4 _ rfl; (with_reducible repeat first | apply kb1_ | apply kb2_ | apply kb3_); refine blk_put (cs := #[.slice none 0 0, .int .i64 0, .int .i64 0, .int .i64 0, .int .i64 0, .int .i64 0, .slice none 0 0]) ?_ 3 _ rfl; (with_reducible repeat first | apply kb1_ | apply kb2_ | apply kb3_); refine blk_put (cs := #[.slice none 0 0, .int .i64 0, .int .i64 0, .int .i64 0, .int .i64 0, .int .i64 0, .slice none 0 0]) ?_ 2 _ rfl; (with_reducible repeat first | apply kb1_ | apply kb2_ | apply kb3_); refine blk_put (cs := #[.slice none 0 0, .int .i64 0, .int .i64 0, .int .i64 0, .int .i64 0, .int .i64 0, .slice none 0 0]) ?_ 1 _ rfl; (with_reducible repeat first | apply kb1_ | apply kb2_ | apply kb3_); refine blk_put (cs := #[.slice none 0 0, .int .i64 0, .int .i64 0, .int .i64 0, .int .i64 0, .int .i64 0, .slice none 0 0]) ?_ 0 _ rfl; (with_reducible repeat first | apply kb1_ | apply kb2_ | apply kb3_); refine blk_far ?_ NB803_823.out _; (with_reducible repeat first | apply kb1_ | apply kb2_ | apply kb3_); refine blk_far ?_ NB803_823.out _; (with_reducible repeat first | apply kb1_ | apply kb2_ | apply kb3_); refine blk_far ?_ NB803_823.out _; (with_reducible repeat first | apply kb1_ | apply kb2_ | apply kb3_); refine blk_far ?_ NB803_823.out _; (with_reducible repeat first | apply kb1_ | apply kb2_ | apply kb3_); refine blk_far ?_ NB803_823.out _; (with_reducible repeat first | apply kb1_ | apply kb2_ | apply kb3_); refine blk_far ?_ NB803_823.out _; (with_reducible repeat first | apply kb1_ | apply kb2_ | apply kb3_); refine blk_far ?_ NB803_823.out _; (with_reducible repeat first | apply kb1_ | apply kb2_ | apply kb3_); exact BK803.out) Try.underlying70 rfl (by kernel_rfl) (.cell gb804 32 #[.int .i64 0, .int .i64 0, .int .i64 0, .int .i64 0] (0, 0) _ rfl (by (with_reducible repeat first | apply kb1_ | apply kb2_ | apply kb3_); refine blk_put (cs := #[.int .i64 0, .int .i64 0, .int .i64 0, .int .i64 0]) ?_ 3 _ rfl; (with_reducible repeat first | apply kb1_ | apply kb2_ | apply kb3_); refine blk_put (cs := #[.int .i64 0, .int .i64 0, .int .i64 0, .int .i64 0]) ?_ 2 _ rfl; (with_reducible repeat first | apply kb1_ | apply kb2_ | apply kb3_); refine blk_put (cs := #[.int .i64 0, .int .i64 0, .int .i64 0, .int .i64 0]) ?_ 1 _ rfl; (with_reducible repeat first | apply kb1_ | apply kb2_ | apply kb3_); refine blk_put (cs := #[.int .i64 0, .int .i64 0, .int .i64 0, .int .i64 0]) ?_ 0 _ rfl; (with_reducible repeat first | apply kb1_ | apply kb2_ | apply kb3_); refine blk_far ?_ NB804_803.out _; (with_reducible repeat first | apply kb1_ | apply kb2_ | apply kb3_); refine blk_far ?_ NB804_803.out _; (with_reducible repeat first | apply kb1_ | apply kb2_ | apply kb3_); refine blk_far ?_ NB804_803.out _; (with_reducible repeat first | apply kb1_ | apply kb2_ | apply kb3_); refine blk_far ?_ NB804_803.out _; (with_reducible repeat first | apply kb1_ | apply kb2_ | apply kb3_); refine blk_far ?_ NB804_803.out _; (with_reducible repeat first | apply kb1_ | apply kb2_ | apply kb3_); refine blk_far ?_ NB804_803.out _; (with_reducible repeat first | apply kb1_ | apply kb2_ | apply kb3_); refine blk_far ?_ NB804_803.out _; (with_reducible repeat first | apply kb1_ | apply kb2_ | apply kb3_); refine blk_far ?_ NB804_823.out _; (with_reducible repeat first | apply kb1_ | apply kb2_ | apply kb3_); refine blk_far ?_ NB804_823.out _; (with_reducible repeat first | apply kb1_ | apply kb2_ | apply kb3_); refine blk_far ?_ NB804_823.out _; (with_reducible repeat first | apply kb1_ | apply kb2_ | apply kb3_); refine blk_far ?_ NB804_823.out _; (with_reducible repeat first | apply kb1_ | apply kb2_ | apply kb3_); refine blk_far ?_ NB804_823.out _; (with_reducible repeat first | apply kb1_ | apply kb2_ | apply kb3_); refine blk_far ?_ NB804_823.out _; (with_reducible repeat first | apply kb1_ | apply kb2_ | apply kb3_); refine blk_far ?_ NB804_823.out _; (with_reducible repeat first | apply kb1_ | apply kb2_ | apply kb3_); exact BK804.out) Try.underlying32 rfl (by kernel_rfl) (.tmp .nil)))) rfl ?_
  exact ⟨_, _, er_, by first | exact Kd.S_nil _ _ _ _ _ | exact Kd.N_nil _ _ _ _ _ | exact Kd.V_nil _ _ _ _ _ | exact Kd.Q_nil _ _ _ _ _ | exact Kd.R_nil _ _ _ _ _, by first | exact Kd.R_nil _ _ _ _ _ | exact Kd.N_nil _ _ _ _ _ | exact Kd.V_nil _ _ _ _ _ | exact Kd.Q_nil _ _ _ _ _ | exact Kd.S_nil _ _ _ _ _, by repeat (first | (with_reducible first | exact HB.out | apply below_alloc | apply pw_below_drewN | apply below_drew1 | refine below_set ?_ GE801.out | refine below_set ?_ GE802.out | refine below_set ?_ GE803.out | refine below_set ?_ GE804.out | refine below_set ?_ GE823.out) | exact HB.out)⟩
end Go.Proofs.Ytmkcbbbknbahgaa.P
namespace Go.Proofs.Ytmkcbbbknbahgaa.P
open Go.RowKit Go.Proofs.YtmkcbbbknbahgaaW.PrintWords Go.Proofs.YtmkcbbbknbahgaaW.PrintLast Go.Proofs.YtmkcbbbknbahgaaW.PrintMore
attribute [local go_sem] max2_int min2_int max_two min_two max_three min_three max_four min_four   -- for this text's walks alone
set_option linter.unusedVariables false
set_option linter.unusedSimpArgs false

def laws_eqIntS.l0 : Nat → List Int → List Int → Int → Option (Bool)
 | 0, _, _, _ => none
 | k + 1, x0, x1, x5 => if x5 < (x0.length : Int) then (if 0 ≤ x5 then (if x5 < (x1.length : Int) then (if (rd x0 x5) = (rd x1 x5) then (laws_eqIntS.l0 k x0 x1 (wrap64 (x5 + 1))) else (some false)) else (none)) else (none)) else (some true)

def laws_eqIntS.f (k : Nat) (l0 : List Int) (l1 : List Int) : Option (Bool) := if (l0.length : Int) = (l1.length : Int) then (laws_eqIntS.l0 k l0 l1 0) else (some false)

set_option maxHeartbeats 8000000 in
set_option maxRecDepth 100000 in
theorem laws_eqIntS.calls (k : Nat) (A0 : Option Addr) (c0 : Nat) (l0 : List Int) (A1 : Option Addr) (c1 : Nat) (l1 : List Int) (r : Bool) (w : World) (hr0 : Kd.C (Kd.int .i64) w A0 l0.length l0) (hc0 : l0.length ≤ c0) (hr1 : Kd.C (Kd.int .i64) w A1 l1.length l1) (hc1 : l1.length ≤ c1) (h : laws_eqIntS.f k l0 l1 = some r) :
  Calls Try.prog 103 #[.slice A0 l0.length c0, .slice A1 l1.length c1] w fun e w' => e = .returned (.bool r) ∧ Drawn0 w w' := by
 have HR0 := Aside0.mk hr0
 have HC0 := Aside0.mk hc0
 clear hr0 hc0
 have HR1 := Aside0.mk hr1
 have HC1 := Aside0.mk hc1
 clear hr1 hc1
 have H : (if (l0.length : Int) = (l1.length : Int) then (laws_eqIntS.l0 k l0 l1 0) else (some false)) = some r := h
 clear h
 by_cases c3 : (l0.length : Int) = (l1.length : Int)
 ·rw [if_pos c3] at H
  have c3b0 : ((l0.length : Int) == (l1.length : Int)) = true := beq_iff_eq.mpr c3
  have c3b1 : ((l0.length : Int) != (l1.length : Int)) = false := bne_eq_false_iff_eq.mpr c3
  have c3b2 : (l0.length == l1.length) = true := by first | simpa using c3 | (simp at c3 ⊢; omega)
  clear c3
  have H' := Aside0.mk H
  clear H
  go_enter Try.func103, Try.ntmps103
  go_wp2
  repeat (go_quiet (fail); try go_wp2)
  go_loopg [5] k (fun kq v5 w' => ∃ (x5_1 : Int), v5 = .int .i64 x5_1 ∧ Aside0 (laws_eqIntS.l0 kq l0 l1 x5_1 = some r) ∧ Aside0 (kq ≤ k) ∧ Drawn0 w w')
  case atStart => exact ⟨(0), (by first | rfl | (simp; done) | (simp [*]; done)), H', ⟨Nat.le_refl _⟩, by repeat (first | exact Drawn0.refl _ | apply Drawn0.step)⟩
  case round =>
   clear H'
   try clear c1
   try clear p2
   try clear c3
   try clear c3b0
   try clear c3b1
   try clear c3b2
   obtain ⟨x5_1, rfl, HA, HK1, ⟨m1, rfl⟩⟩ := hrel
   cases gk with
   | zero => exact absurd HA.out (by simp [laws_eqIntS.l0])
   | succ k1 =>
    have H := HA.out
    clear HA
    simp only [laws_eqIntS.l0] at H
    by_cases c4 : x5_1 < (l0.length : Int)
    ·rw [if_pos c4] at H
     have c4b0 : decide (x5_1 < (l0.length : Int)) = true := decide_eq_true c4
     clear c4
     by_cases c5 : 0 ≤ x5_1
     ·rw [if_pos c5] at H
      have c5b0 : decide (0 ≤ x5_1) = true := decide_eq_true c5
      clear c5
      by_cases c6 : x5_1 < (l1.length : Int)
      ·rw [if_pos c6] at H
       have c6b0 : decide (x5_1 < (l1.length : Int)) = true := decide_eq_true c6
       clear c6
       by_cases c7 : (rd l0 x5_1) = (rd l1 x5_1)
       ·rw [if_pos c7] at H
        have c7b0 : ((rd l0 x5_1) == (rd l1 x5_1)) = true := beq_iff_eq.mpr c7
        have c7b1 : ((rd l0 x5_1) != (rd l1 x5_1)) = false := bne_eq_false_iff_eq.mpr c7
        clear c7
        have H' := Aside0.mk H
        clear H
        have p825 : 0 ≤ (x5_1 : Int) := of_decide_eq_true as_
        have q825 : x5_1 < (l0.length : Int) := of_decide_eq_true as_
        obtain ⟨ad825, e825, hx825_0⟩ := Kd.at_int HR0.out x5_1 p825 q825
        cases e825
        replace p825 := eq_true p825
        replace q825 := eq_true q825
        have p826 : 0 ≤ (x5_1 : Int) := of_decide_eq_true as_
        have q826 : x5_1 < (l1.length : Int) := of_decide_eq_true as_
        obtain ⟨ad826, e826, hx826_0⟩ := Kd.at_int HR1.out x5_1 p826 q826
        cases e826
        replace p826 := eq_true p826
        replace q826 := eq_true q826
        go_wp2
        repeat (go_quiet (fail); try go_wp2)
        go_roundg k1
        case measure => have := HK1.out; omega
        case rel => exact ⟨(wrap64 (x5_1 + 1)), (by first | rfl | (simp; done) | (simp [*]; done)), H', ⟨by have := HK1.out; omega⟩, by repeat (first | exact Drawn0.refl _ | apply Drawn0.step)⟩
       ·rw [if_neg c7] at H
        have c7b0 : ((rd l0 x5_1) == (rd l1 x5_1)) = false := beq_eq_false_iff_ne.mpr c7
        have c7b1 : ((rd l0 x5_1) != (rd l1 x5_1)) = true := bne_iff_ne.mpr c7
        obtain rfl := Option.some.inj H
        have p825 : 0 ≤ (x5_1 : Int) := of_decide_eq_true as_
        have q825 : x5_1 < (l0.length : Int) := of_decide_eq_true as_
        obtain ⟨ad825, e825, hx825_0⟩ := Kd.at_int HR0.out x5_1 p825 q825
        cases e825
        replace p825 := eq_true p825
        replace q825 := eq_true q825
        have p826 : 0 ≤ (x5_1 : Int) := of_decide_eq_true as_
        have q826 : x5_1 < (l1.length : Int) := of_decide_eq_true as_
        obtain ⟨ad826, e826, hx826_0⟩ := Kd.at_int HR1.out x5_1 p826 q826
        cases e826
        replace p826 := eq_true p826
        replace q826 := eq_true q826
        go_wp2
        repeat (go_quiet (fail); try go_wp2)
        go_ret
        exact ⟨by first | rfl | (simp; done) | (simp [*]; done), by repeat (first | exact Drawn0.refl _ | apply Drawn0.step)⟩
      ·rw [if_neg c6] at H
       exact absurd H (by simp)
     ·rw [if_neg c5] at H
      exact absurd H (by simp)
    ·rw [if_neg c4] at H
     have c4b0 : decide (x5_1 < (l0.length : Int)) = false := decide_eq_false c4
     clear c4
     obtain rfl := Option.some.inj H
     go_wp2
     repeat (go_quiet (fail); try go_wp2)
     go_ret
     exact ⟨by first | rfl | (simp; done) | (simp [*]; done), by repeat (first | exact Drawn0.refl _ | apply Drawn0.step)⟩
 ·rw [if_neg c3] at H
  have c3b0 : ((l0.length : Int) == (l1.length : Int)) = false := beq_eq_false_iff_ne.mpr c3
  have c3b1 : ((l0.length : Int) != (l1.length : Int)) = true := bne_iff_ne.mpr c3
  have c3b2 : (l0.length == l1.length) = false := by first | simpa using c3 | (simp at c3 ⊢; omega)
  obtain rfl := Option.some.inj H
  go_enter Try.func103, Try.ntmps103
  go_wp2
  repeat (go_quiet (fail); try go_wp2)
  go_ret
  exact ⟨by first | rfl | (simp; done) | (simp [*]; done), by repeat (first | exact Drawn0.refl _ | apply Drawn0.step)⟩
end Go.Proofs.Ytmkcbbbknbahgaa.P
namespace Go.Proofs.Ytmkcbbbknbahgaa.P
open Go.RowKit Go.Proofs.YtmkcbbbknbahgaaW.PrintWords Go.Proofs.YtmkcbbbknbahgaaW.PrintLast Go.Proofs.YtmkcbbbknbahgaaW.PrintMore
attribute [local go_sem] max2_int min2_int max_two min_two max_three min_three max_four min_four   -- for this text's walks alone
set_option linter.unusedVariables false
set_option linter.unusedSimpArgs false

def laws_eqWindow.f (a0_0 : Int) (a0_1 : Int) (a0_2 : Int) (a0_3 : Int) (a1_0 : Int) (a1_1 : Int) (a1_2 : Int) (a1_3 : Int) : Option (Bool) := if a0_0 = a1_0 then (if a0_1 = a1_1 then (if a0_2 = a1_2 then (if a0_3 = a1_3 then (some true) else (some false)) else (some false)) else (some false)) else (some false)

set_option maxHeartbeats 8000000 in
set_option maxRecDepth 100000 in
theorem laws_eqWindow.calls (a0_0 : Int) (a0_1 : Int) (a0_2 : Int) (a0_3 : Int) (a1_0 : Int) (a1_1 : Int) (a1_2 : Int) (a1_3 : Int) (r : Bool) (w : World) (h : laws_eqWindow.f a0_0 a0_1 a0_2 a0_3 a1_0 a1_1 a1_2 a1_3 = some r) :
  Calls Try.prog 41 #[.agg #[.int .i64 a0_0, .int .i64 a0_1, .int .i64 a0_2, .int .i64 a0_3], .agg #[.int .i64 a1_0, .int .i64 a1_1, .int .i64 a1_2, .int .i64 a1_3]] w fun e w' => e = .returned (.bool r) ∧ Below w.heap.size w w' := by
 have hu32 := Try.underlying32
 have HB := Aside0.mk (Below.refl w.heap.size w)
 have H : (if a0_0 = a1_0 then (if a0_1 = a1_1 then (if a0_2 = a1_2 then (if a0_3 = a1_3 then (some true) else (some false)) else (some false)) else (some false)) else (some false)) = some r := h
 clear h
 by_cases c3 : a0_0 = a1_0
 ·rw [if_pos c3] at H
  have c3b0 : (a0_0 == a1_0) = true := beq_iff_eq.mpr c3
  have c3b1 : (a0_0 != a1_0) = false := bne_eq_false_iff_eq.mpr c3
  clear c3
  by_cases c4 : a0_1 = a1_1
  ·rw [if_pos c4] at H
   have c4b0 : (a0_1 == a1_1) = true := beq_iff_eq.mpr c4
   have c4b1 : (a0_1 != a1_1) = false := bne_eq_false_iff_eq.mpr c4
   clear c4
   by_cases c5 : a0_2 = a1_2
   ·rw [if_pos c5] at H
    have c5b0 : (a0_2 == a1_2) = true := beq_iff_eq.mpr c5
    have c5b1 : (a0_2 != a1_2) = false := bne_eq_false_iff_eq.mpr c5
    clear c5
    by_cases c6 : a0_3 = a1_3
    ·rw [if_pos c6] at H
     have c6b0 : (a0_3 == a1_3) = true := beq_iff_eq.mpr c6
     have c6b1 : (a0_3 != a1_3) = false := bne_eq_false_iff_eq.mpr c6
     clear c6
     obtain rfl := Option.some.inj H
     go_enter Try.func41, Try.ntmps41
     go_wp2_with (first | ((with_reducible refine gate_dst (N := 2) rfl ?_); refine box_event ?hg (N := 2) ?hd (cs := #[.int .i64 a0_0, .int .i64 a0_1, .int .i64 a0_2, .int .i64 a0_3]) (t := 32) ?hr ?_; (case hd => rfl); (case hg => rfl); (case hr => exact gs_); intro gb357 hg w7 hbox hb; have BK357 := Aside0.mk (hbox); have GW357 := gE_ HB hg; have GE357 := gE_ HB hg; replace HB := Aside0.mk (below_step (by repeat (first | (with_reducible first | exact HB.out | apply ba_ | apply bn_ | apply bd_) | exact HB.out)) hb); clear hb hbox hg) | ((with_reducible refine gate_dst (N := 3) rfl ?_); refine box_event ?hg (N := 3) ?hd (cs := #[.int .i64 a1_0, .int .i64 a1_1, .int .i64 a1_2, .int .i64 a1_3]) (t := 32) ?hr ?_; (case hd => rfl); (case hg => rfl); (case hr => exact gs_); intro gb358 hg w8 hbox hb; have BK358 := Aside0.mk (hbox); have GW358 := gE_ HB hg; have GE358 := gE_ HB hg; replace HB := Aside0.mk (below_step (by repeat (first | (with_reducible first | exact HB.out | apply ba_ | apply bn_ | apply bd_ | refine bset_ ?_ (by assumption)) | exact HB.out)) hb); have NB357_358 := nB_ BK357 hg; have NB358_357 := nA_ BK357 hg; replace BK357 := bB_ BK357 hb; clear hb hbox hg; have hnb9 := NB357_358.out; have hnc9 := NB358_357.out; have hcz10_0 : w8.cell? ⟨gb357, 0, none⟩ = some (.int .i64 a0_0) := (blk_cell BK357.out 0).trans rfl; have hcz10_1 : w8.cell? ⟨gb357, 1, none⟩ = some (.int .i64 a0_1) := (blk_cell BK357.out 1).trans rfl; have hcz10_2 : w8.cell? ⟨gb357, 2, none⟩ = some (.int .i64 a0_2) := (blk_cell BK357.out 2).trans rfl; have hcz10_3 : w8.cell? ⟨gb357, 3, none⟩ = some (.int .i64 a0_3) := (blk_cell BK357.out 3).trans rfl; have hfz10_0 := blk_frozen BK357.out 0; have hfz10_1 := blk_frozen BK357.out 1; have hfz10_2 := blk_frozen BK357.out 2; have hfz10_3 := blk_frozen BK357.out 3; have hcz11_0 : w8.cell? ⟨gb358, 0, none⟩ = some (.int .i64 a1_0) := (blk_cell BK358.out 0).trans rfl; have hcz11_1 : w8.cell? ⟨gb358, 1, none⟩ = some (.int .i64 a1_1) := (blk_cell BK358.out 1).trans rfl; have hcz11_2 : w8.cell? ⟨gb358, 2, none⟩ = some (.int .i64 a1_2) := (blk_cell BK358.out 2).trans rfl; have hcz11_3 : w8.cell? ⟨gb358, 3, none⟩ = some (.int .i64 a1_3) := (blk_cell BK358.out 3).trans rfl; have hfz11_0 := blk_frozen BK358.out 0; have hfz11_1 := blk_frozen BK358.out 1; have hfz11_2 := blk_frozen BK358.out 2; have hfz11_3 := blk_frozen BK358.out 3))
     go_ret
     exact ⟨er_, by repeat (first | (with_reducible first | exact HB.out | apply below_alloc | apply pw_below_drewN | apply below_drew1 | refine below_set ?_ GE357.out | refine below_set ?_ GE358.out) | exact HB.out)⟩
    ·rw [if_neg c6] at H
     have c6b0 : (a0_3 == a1_3) = false := beq_eq_false_iff_ne.mpr c6
     have c6b1 : (a0_3 != a1_3) = true := bne_iff_ne.mpr c6
     obtain rfl := Option.some.inj H
     go_enter Try.func41, Try.ntmps41
     go_wp2_with (first | ((with_reducible refine gate_dst (N := 2) rfl ?_); refine box_event ?hg (N := 2) ?hd (cs := #[.int .i64 a0_0, .int .i64 a0_1, .int .i64 a0_2, .int .i64 a0_3]) (t := 32) ?hr ?_; (case hd => rfl); (case hg => rfl); (case hr => exact gs_); intro gb357 hg w12 hbox hb; have BK357 := Aside0.mk (hbox); have GW357 := gE_ HB hg; have GE357 := gE_ HB hg; replace HB := Aside0.mk (below_step (by repeat (first | (with_reducible first | exact HB.out | apply ba_ | apply bn_ | apply bd_) | exact HB.out)) hb); clear hb hbox hg) | ((with_reducible refine gate_dst (N := 3) rfl ?_); refine box_event ?hg (N := 3) ?hd (cs := #[.int .i64 a1_0, .int .i64 a1_1, .int .i64 a1_2, .int .i64 a1_3]) (t := 32) ?hr ?_; (case hd => rfl); (case hg => rfl); (case hr => exact gs_); intro gb358 hg w13 hbox hb; have BK358 := Aside0.mk (hbox); have GW358 := gE_ HB hg; have GE358 := gE_ HB hg; replace HB := Aside0.mk (below_step (by repeat (first | (with_reducible first | exact HB.out | apply ba_ | apply bn_ | apply bd_ | refine bset_ ?_ (by assumption)) | exact HB.out)) hb); have NB357_358 := nB_ BK357 hg; have NB358_357 := nA_ BK357 hg; replace BK357 := bB_ BK357 hb; clear hb hbox hg; have hnb14 := NB357_358.out; have hnc14 := NB358_357.out; have hcz15_0 : w13.cell? ⟨gb357, 0, none⟩ = some (.int .i64 a0_0) := (blk_cell BK357.out 0).trans rfl; have hcz15_1 : w13.cell? ⟨gb357, 1, none⟩ = some (.int .i64 a0_1) := (blk_cell BK357.out 1).trans rfl; have hcz15_2 : w13.cell? ⟨gb357, 2, none⟩ = some (.int .i64 a0_2) := (blk_cell BK357.out 2).trans rfl; have hcz15_3 : w13.cell? ⟨gb357, 3, none⟩ = some (.int .i64 a0_3) := (blk_cell BK357.out 3).trans rfl; have hfz15_0 := blk_frozen BK357.out 0; have hfz15_1 := blk_frozen BK357.out 1; have hfz15_2 := blk_frozen BK357.out 2; have hfz15_3 := blk_frozen BK357.out 3; have hcz16_0 : w13.cell? ⟨gb358, 0, none⟩ = some (.int .i64 a1_0) := (blk_cell BK358.out 0).trans rfl; have hcz16_1 : w13.cell? ⟨gb358, 1, none⟩ = some (.int .i64 a1_1) := (blk_cell BK358.out 1).trans rfl; have hcz16_2 : w13.cell? ⟨gb358, 2, none⟩ = some (.int .i64 a1_2) := (blk_cell BK358.out 2).trans rfl; have hcz16_3 : w13.cell? ⟨gb358, 3, none⟩ = some (.int .i64 a1_3) := (blk_cell BK358.out 3).trans rfl; have hfz16_0 := blk_frozen BK358.out 0; have hfz16_1 := blk_frozen BK358.out 1; have hfz16_2 := blk_frozen BK358.out 2; have hfz16_3 := blk_frozen BK358.out 3))
     go_ret
     exact ⟨er_, by repeat (first | (with_reducible first | exact HB.out | apply below_alloc | apply pw_below_drewN | apply below_drew1 | refine below_set ?_ GE357.out | refine below_set ?_ GE358.out) | exact HB.out)⟩
   ·rw [if_neg c5] at H
    have c5b0 : (a0_2 == a1_2) = false := beq_eq_false_iff_ne.mpr c5
    have c5b1 : (a0_2 != a1_2) = true := bne_iff_ne.mpr c5
    obtain rfl := Option.some.inj H
    go_enter Try.func41, Try.ntmps41
    go_wp2_with (first | ((with_reducible refine gate_dst (N := 2) rfl ?_); refine box_event ?hg (N := 2) ?hd (cs := #[.int .i64 a0_0, .int .i64 a0_1, .int .i64 a0_2, .int .i64 a0_3]) (t := 32) ?hr ?_; (case hd => rfl); (case hg => rfl); (case hr => exact gs_); intro gb357 hg w17 hbox hb; have BK357 := Aside0.mk (hbox); have GW357 := gE_ HB hg; have GE357 := gE_ HB hg; replace HB := Aside0.mk (below_step (by repeat (first | (with_reducible first | exact HB.out | apply ba_ | apply bn_ | apply bd_) | exact HB.out)) hb); clear hb hbox hg) | ((with_reducible refine gate_dst (N := 3) rfl ?_); refine box_event ?hg (N := 3) ?hd (cs := #[.int .i64 a1_0, .int .i64 a1_1, .int .i64 a1_2, .int .i64 a1_3]) (t := 32) ?hr ?_; (case hd => rfl); (case hg => rfl); (case hr => exact gs_); intro gb358 hg w18 hbox hb; have BK358 := Aside0.mk (hbox); have GW358 := gE_ HB hg; have GE358 := gE_ HB hg; replace HB := Aside0.mk (below_step (by repeat (first | (with_reducible first | exact HB.out | apply ba_ | apply bn_ | apply bd_ | refine bset_ ?_ (by assumption)) | exact HB.out)) hb); have NB357_358 := nB_ BK357 hg; have NB358_357 := nA_ BK357 hg; replace BK357 := bB_ BK357 hb; clear hb hbox hg; have hnb19 := NB357_358.out; have hnc19 := NB358_357.out; have hcz20_0 : w18.cell? ⟨gb357, 0, none⟩ = some (.int .i64 a0_0) := (blk_cell BK357.out 0).trans rfl; have hcz20_1 : w18.cell? ⟨gb357, 1, none⟩ = some (.int .i64 a0_1) := (blk_cell BK357.out 1).trans rfl; have hcz20_2 : w18.cell? ⟨gb357, 2, none⟩ = some (.int .i64 a0_2) := (blk_cell BK357.out 2).trans rfl; have hcz20_3 : w18.cell? ⟨gb357, 3, none⟩ = some (.int .i64 a0_3) := (blk_cell BK357.out 3).trans rfl; have hfz20_0 := blk_frozen BK357.out 0; have hfz20_1 := blk_frozen BK357.out 1; have hfz20_2 := blk_frozen BK357.out 2; have hfz20_3 := blk_frozen BK357.out 3; have hcz21_0 : w18.cell? ⟨gb358, 0, none⟩ = some (.int .i64 a1_0) := (blk_cell BK358.out 0).trans rfl; have hcz21_1 : w18.cell? ⟨gb358, 1, none⟩ = some (.int .i64 a1_1) := (blk_cell BK358.out 1).trans rfl; have hcz21_2 : w18.cell? ⟨gb358, 2, none⟩ = some (.int .i64 a1_2) := (blk_cell BK358.out 2).trans rfl; have hcz21_3 : w18.cell? ⟨gb358, 3, none⟩ = some (.int .i64 a1_3) := (blk_cell BK358.out 3).trans rfl; have hfz21_0 := blk_frozen BK358.out 0; have hfz21_1 := blk_frozen BK358.out 1; have hfz21_2 := blk_frozen BK358.out 2; have hfz21_3 := blk_frozen BK358.out 3))
    go_ret
    exact ⟨er_, by repeat (first | (with_reducible first | exact HB.out | apply below_alloc | apply pw_below_drewN | apply below_drew1 | refine below_set ?_ GE357.out | refine below_set ?_ GE358.out) | exact HB.out)⟩
  ·rw [if_neg c4] at H
   have c4b0 : (a0_1 == a1_1) = false := beq_eq_false_iff_ne.mpr c4
   have c4b1 : (a0_1 != a1_1) = true := bne_iff_ne.mpr c4
   obtain rfl := Option.some.inj H
   go_enter Try.func41, Try.ntmps41
   go_wp2_with (first | ((with_reducible refine gate_dst (N := 2) rfl ?_); refine box_event ?hg (N := 2) ?hd (cs := #[.int .i64 a0_0, .int .i64 a0_1, .int .i64 a0_2, .int .i64 a0_3]) (t := 32) ?hr ?_; (case hd => rfl); (case hg => rfl); (case hr => exact gs_); intro gb357 hg w22 hbox hb; have BK357 := Aside0.mk (hbox); have GW357 := gE_ HB hg; have GE357 := gE_ HB hg; replace HB := Aside0.mk (below_step (by repeat (first | (with_reducible first | exact HB.out | apply ba_ | apply bn_ | apply bd_) | exact HB.out)) hb); clear hb hbox hg) | ((with_reducible refine gate_dst (N := 3) rfl ?_); refine box_event ?hg (N := 3) ?hd (cs := #[.int .i64 a1_0, .int .i64 a1_1, .int .i64 a1_2, .int .i64 a1_3]) (t := 32) ?hr ?_; (case hd => rfl); (case hg => rfl); (case hr => exact gs_); intro gb358 hg w23 hbox hb; have BK358 := Aside0.mk (hbox); have GW358 := gE_ HB hg; have GE358 := gE_ HB hg; replace HB := Aside0.mk (below_step (by repeat (first | (with_reducible first | exact HB.out | apply ba_ | apply bn_ | apply bd_ | refine bset_ ?_ (by assumption)) | exact HB.out)) hb); have NB357_358 := nB_ BK357 hg; have NB358_357 := nA_ BK357 hg; replace BK357 := bB_ BK357 hb; clear hb hbox hg; have hnb24 := NB357_358.out; have hnc24 := NB358_357.out; have hcz25_0 : w23.cell? ⟨gb357, 0, none⟩ = some (.int .i64 a0_0) := (blk_cell BK357.out 0).trans rfl; have hcz25_1 : w23.cell? ⟨gb357, 1, none⟩ = some (.int .i64 a0_1) := (blk_cell BK357.out 1).trans rfl; have hcz25_2 : w23.cell? ⟨gb357, 2, none⟩ = some (.int .i64 a0_2) := (blk_cell BK357.out 2).trans rfl; have hcz25_3 : w23.cell? ⟨gb357, 3, none⟩ = some (.int .i64 a0_3) := (blk_cell BK357.out 3).trans rfl; have hfz25_0 := blk_frozen BK357.out 0; have hfz25_1 := blk_frozen BK357.out 1; have hfz25_2 := blk_frozen BK357.out 2; have hfz25_3 := blk_frozen BK357.out 3; have hcz26_0 : w23.cell? ⟨gb358, 0, none⟩ = some (.int .i64 a1_0) := (blk_cell BK358.out 0).trans rfl; have hcz26_1 : w23.cell? ⟨gb358, 1, none⟩ = some (.int .i64 a1_1) := (blk_cell BK358.out 1).trans rfl; have hcz26_2 : w23.cell? ⟨gb358, 2, none⟩ = some (.int .i64 a1_2) := (blk_cell BK358.out 2).trans rfl; have hcz26_3 : w23.cell? ⟨gb358, 3, none⟩ = some (.int .i64 a1_3) := (blk_cell BK358.out 3).trans rfl; have hfz26_0 := blk_frozen BK358.out 0; have hfz26_1 := blk_frozen BK358.out 1; have hfz26_2 := blk_frozen BK358.out 2; have hfz26_3 := blk_frozen BK358.out 3))
   go_ret
   exact ⟨er_, by repeat (first | (with_reducible first | exact HB.out | apply below_alloc | apply pw_below_drewN | apply below_drew1 | refine below_set ?_ GE357.out | refine below_set ?_ GE358.out) | exact HB.out)⟩
 ·rw [if_neg c3] at H
  have c3b0 : (a0_0 == a1_0) = false := beq_eq_false_iff_ne.mpr c3
  have c3b1 : (a0_0 != a1_0) = true := bne_iff_ne.mpr c3
  obtain rfl := Option.some.inj H
  go_enter Try.func41, Try.ntmps41
  go_wp2_with (first | ((with_reducible refine gate_dst (N := 2) rfl ?_); refine box_event ?hg (N := 2) ?hd (cs := #[.int .i64 a0_0, .int .i64 a0_1, .int .i64 a0_2, .int .i64 a0_3]) (t := 32) ?hr ?_; (case hd => rfl); (case hg => rfl); (case hr => exact gs_); intro gb357 hg w27 hbox hb; have BK357 := Aside0.mk (hbox); have GW357 := gE_ HB hg; have GE357 := gE_ HB hg; replace HB := Aside0.mk (below_step (by repeat (first | (with_reducible first | exact HB.out | apply ba_ | apply bn_ | apply bd_) | exact HB.out)) hb); clear hb hbox hg) | ((with_reducible refine gate_dst (N := 3) rfl ?_); refine box_event ?hg (N := 3) ?hd (cs := #[.int .i64 a1_0, .int .i64 a1_1, .int .i64 a1_2, .int .i64 a1_3]) (t := 32) ?hr ?_; (case hd => rfl); (case hg => rfl); (case hr => exact gs_); intro gb358 hg w28 hbox hb; have BK358 := Aside0.mk (hbox); have GW358 := gE_ HB hg; have GE358 := gE_ HB hg; replace HB := Aside0.mk (below_step (by repeat (first | (with_reducible first | exact HB.out | apply ba_ | apply bn_ | apply bd_ | refine bset_ ?_ (by assumption)) | exact HB.out)) hb); have NB357_358 := nB_ BK357 hg; have NB358_357 := nA_ BK357 hg; replace BK357 := bB_ BK357 hb; clear hb hbox hg; have hnb29 := NB357_358.out; have hnc29 := NB358_357.out; have hcz30_0 : w28.cell? ⟨gb357, 0, none⟩ = some (.int .i64 a0_0) := (blk_cell BK357.out 0).trans rfl; have hcz30_1 : w28.cell? ⟨gb357, 1, none⟩ = some (.int .i64 a0_1) := (blk_cell BK357.out 1).trans rfl; have hcz30_2 : w28.cell? ⟨gb357, 2, none⟩ = some (.int .i64 a0_2) := (blk_cell BK357.out 2).trans rfl; have hcz30_3 : w28.cell? ⟨gb357, 3, none⟩ = some (.int .i64 a0_3) := (blk_cell BK357.out 3).trans rfl; have hfz30_0 := blk_frozen BK357.out 0; have hfz30_1 := blk_frozen BK357.out 1; have hfz30_2 := blk_frozen BK357.out 2; have hfz30_3 := blk_frozen BK357.out 3; have hcz31_0 : w28.cell? ⟨gb358, 0, none⟩ = some (.int .i64 a1_0) := (blk_cell BK358.out 0).trans rfl; have hcz31_1 : w28.cell? ⟨gb358, 1, none⟩ = some (.int .i64 a1_1) := (blk_cell BK358.out 1).trans rfl; have hcz31_2 : w28.cell? ⟨gb358, 2, none⟩ = some (.int .i64 a1_2) := (blk_cell BK358.out 2).trans rfl; have hcz31_3 : w28.cell? ⟨gb358, 3, none⟩ = some (.int .i64 a1_3) := (blk_cell BK358.out 3).trans rfl; have hfz31_0 := blk_frozen BK358.out 0; have hfz31_1 := blk_frozen BK358.out 1; have hfz31_2 := blk_frozen BK358.out 2; have hfz31_3 := blk_frozen BK358.out 3))
  go_ret
  exact ⟨er_, by repeat (first | (with_reducible first | exact HB.out | apply below_alloc | apply pw_below_drewN | apply below_drew1 | refine below_set ?_ GE357.out | refine below_set ?_ GE358.out) | exact HB.out)⟩
end Go.Proofs.Ytmkcbbbknbahgaa.P
namespace Go.Proofs.Ytmkcbbbknbahgaa.P
open Go.RowKit Go.Proofs.YtmkcbbbknbahgaaW.PrintWords Go.Proofs.YtmkcbbbknbahgaaW.PrintLast Go.Proofs.YtmkcbbbknbahgaaW.PrintMore
attribute [local go_sem] max2_int min2_int max_two min_two max_three min_three max_four min_four   -- for this text's walks alone
set_option linter.unusedVariables false
set_option linter.unusedSimpArgs false

def laws_eqByteS.l0 : Nat → List Int → List Int → Int → Option (Bool)
 | 0, _, _, _ => none
 | k + 1, x0, x1, x5 => if x5 < (x0.length : Int) then (if 0 ≤ x5 then (if x5 < (x1.length : Int) then (if (rd x0 x5) = (rd x1 x5) then (laws_eqByteS.l0 k x0 x1 (wrap64 (x5 + 1))) else (some false)) else (none)) else (none)) else (some true)

def laws_eqByteS.f (k : Nat) (l0 : List Int) (l1 : List Int) : Option (Bool) := if (l0.length : Int) = (l1.length : Int) then (laws_eqByteS.l0 k l0 l1 0) else (some false)

set_option maxHeartbeats 8000000 in
set_option maxRecDepth 100000 in
theorem laws_eqByteS.calls (k : Nat) (A0 : Option Addr) (c0 : Nat) (l0 : List Int) (A1 : Option Addr) (c1 : Nat) (l1 : List Int) (r : Bool) (w : World) (hr0 : Kd.C (Kd.int .u8) w A0 l0.length l0) (hc0 : l0.length ≤ c0) (hr1 : Kd.C (Kd.int .u8) w A1 l1.length l1) (hc1 : l1.length ≤ c1) (h : laws_eqByteS.f k l0 l1 = some r) :
  Calls Try.prog 19 #[.slice A0 l0.length c0, .slice A1 l1.length c1] w fun e w' => e = .returned (.bool r) ∧ Drawn0 w w' := by
 have HR0 := Aside0.mk hr0
 have HC0 := Aside0.mk hc0
 clear hr0 hc0
 have HR1 := Aside0.mk hr1
 have HC1 := Aside0.mk hc1
 clear hr1 hc1
 have H : (if (l0.length : Int) = (l1.length : Int) then (laws_eqByteS.l0 k l0 l1 0) else (some false)) = some r := h
 clear h
 by_cases c3 : (l0.length : Int) = (l1.length : Int)
 ·rw [if_pos c3] at H
  have c3b0 : ((l0.length : Int) == (l1.length : Int)) = true := beq_iff_eq.mpr c3
  have c3b1 : ((l0.length : Int) != (l1.length : Int)) = false := bne_eq_false_iff_eq.mpr c3
  have c3b2 : (l0.length == l1.length) = true := by first | simpa using c3 | (simp at c3 ⊢; omega)
  clear c3
  have H' := Aside0.mk H
  clear H
  go_enter Try.func19, Try.ntmps19
  go_wp2
  repeat (go_quiet (fail); try go_wp2)
  go_loopg [5] k (fun kq v5 w' => ∃ (x5_1 : Int), v5 = .int .i64 x5_1 ∧ Aside0 (laws_eqByteS.l0 kq l0 l1 x5_1 = some r) ∧ Aside0 (kq ≤ k) ∧ Drawn0 w w')
  case atStart => exact ⟨(0), (by first | rfl | (simp; done) | (simp [*]; done)), H', ⟨Nat.le_refl _⟩, by repeat (first | exact Drawn0.refl _ | apply Drawn0.step)⟩
  case round =>
   clear H'
   try clear c1
   try clear p2
   try clear c3
   try clear c3b0
   try clear c3b1
   try clear c3b2
   obtain ⟨x5_1, rfl, HA, HK1, ⟨m1, rfl⟩⟩ := hrel
   cases gk with
   | zero => exact absurd HA.out (by simp [laws_eqByteS.l0])
   | succ k1 =>
    have H := HA.out
    clear HA
    simp only [laws_eqByteS.l0] at H
    by_cases c4 : x5_1 < (l0.length : Int)
    ·rw [if_pos c4] at H
     have c4b0 : decide (x5_1 < (l0.length : Int)) = true := decide_eq_true c4
     clear c4
     by_cases c5 : 0 ≤ x5_1
     ·rw [if_pos c5] at H
      have c5b0 : decide (0 ≤ x5_1) = true := decide_eq_true c5
      clear c5
      by_cases c6 : x5_1 < (l1.length : Int)
      ·rw [if_pos c6] at H
       have c6b0 : decide (x5_1 < (l1.length : Int)) = true := decide_eq_true c6
       clear c6
       by_cases c7 : (rd l0 x5_1) = (rd l1 x5_1)
       ·rw [if_pos c7] at H
        have c7b0 : ((rd l0 x5_1) == (rd l1 x5_1)) = true := beq_iff_eq.mpr c7
        have c7b1 : ((rd l0 x5_1) != (rd l1 x5_1)) = false := bne_eq_false_iff_eq.mpr c7
        clear c7
        have H' := Aside0.mk H
        clear H
        have p359 : 0 ≤ (x5_1 : Int) := of_decide_eq_true as_
        have q359 : x5_1 < (l0.length : Int) := of_decide_eq_true as_
        obtain ⟨ad359, e359, hx359_0⟩ := Kd.at_int HR0.out x5_1 p359 q359
        cases e359
        replace p359 := eq_true p359
        replace q359 := eq_true q359
        have p360 : 0 ≤ (x5_1 : Int) := of_decide_eq_true as_
        have q360 : x5_1 < (l1.length : Int) := of_decide_eq_true as_
        obtain ⟨ad360, e360, hx360_0⟩ := Kd.at_int HR1.out x5_1 p360 q360
        cases e360
        replace p360 := eq_true p360
        replace q360 := eq_true q360
        go_wp2
        repeat (go_quiet (fail); try go_wp2)
        go_roundg k1
        case measure => have := HK1.out; omega
        case rel => exact ⟨(wrap64 (x5_1 + 1)), (by first | rfl | (simp; done) | (simp [*]; done)), H', ⟨by have := HK1.out; omega⟩, by repeat (first | exact Drawn0.refl _ | apply Drawn0.step)⟩
       ·rw [if_neg c7] at H
        have c7b0 : ((rd l0 x5_1) == (rd l1 x5_1)) = false := beq_eq_false_iff_ne.mpr c7
        have c7b1 : ((rd l0 x5_1) != (rd l1 x5_1)) = true := bne_iff_ne.mpr c7
        obtain rfl := Option.some.inj H
        have p359 : 0 ≤ (x5_1 : Int) := of_decide_eq_true as_
        have q359 : x5_1 < (l0.length : Int) := of_decide_eq_true as_
        obtain ⟨ad359, e359, hx359_0⟩ := Kd.at_int HR0.out x5_1 p359 q359
        cases e359
        replace p359 := eq_true p359
        replace q359 := eq_true q359
        have p360 : 0 ≤ (x5_1 : Int) := of_decide_eq_true as_
        have q360 : x5_1 < (l1.length : Int) := of_decide_eq_true as_
        obtain ⟨ad360, e360, hx360_0⟩ := Kd.at_int HR1.out x5_1 p360 q360
        cases e360
        replace p360 := eq_true p360
        replace q360 := eq_true q360
        go_wp2
        repeat (go_quiet (fail); try go_wp2)
        go_ret
        exact ⟨by first | rfl | (simp; done) | (simp [*]; done), by repeat (first | exact Drawn0.refl _ | apply Drawn0.step)⟩
      ·rw [if_neg c6] at H
       exact absurd H (by simp)
     ·rw [if_neg c5] at H
      exact absurd H (by simp)
    ·rw [if_neg c4] at H
     have c4b0 : decide (x5_1 < (l0.length : Int)) = false := decide_eq_false c4
     clear c4
     obtain rfl := Option.some.inj H
     go_wp2
     repeat (go_quiet (fail); try go_wp2)
     go_ret
     exact ⟨by first | rfl | (simp; done) | (simp [*]; done), by repeat (first | exact Drawn0.refl _ | apply Drawn0.step)⟩
 ·rw [if_neg c3] at H
  have c3b0 : ((l0.length : Int) == (l1.length : Int)) = false := beq_eq_false_iff_ne.mpr c3
  have c3b1 : ((l0.length : Int) != (l1.length : Int)) = true := bne_iff_ne.mpr c3
  have c3b2 : (l0.length == l1.length) = false := by first | simpa using c3 | (simp at c3 ⊢; omega)
  obtain rfl := Option.some.inj H
  go_enter Try.func19, Try.ntmps19
  go_wp2
  repeat (go_quiet (fail); try go_wp2)
  go_ret
  exact ⟨by first | rfl | (simp; done) | (simp [*]; done), by repeat (first | exact Drawn0.refl _ | apply Drawn0.step)⟩
end Go.Proofs.Ytmkcbbbknbahgaa.P
namespace Go.Proofs.Ytmkcbbbknbahgaa.P
open Go.RowKit Go.Proofs.YtmkcbbbknbahgaaW.PrintWords Go.Proofs.YtmkcbbbknbahgaaW.PrintLast Go.Proofs.YtmkcbbbknbahgaaW.PrintMore
attribute [local go_sem] max2_int min2_int max_two min_two max_three min_three max_four min_four   -- for this text's walks alone
set_option linter.unusedVariables false
set_option linter.unusedSimpArgs false

def laws_eqByteSS.l0 : Nat → List (List Int) → List (List Int) → Int → Option (Bool)
 | 0, _, _, _ => none
 | k + 1, x0, x1, x5 => if x5 < (x0.length : Int) then (if 0 ≤ x5 then (if x5 < (x1.length : Int) then ((laws_eqByteS.f k (rd_L1 x0 x5) (rd_L1 x1 x5)).bind fun t363 => (if t363 = true then (laws_eqByteSS.l0 k x0 x1 (wrap64 (x5 + 1))) else (some false))) else (none)) else (none)) else (some true)

def laws_eqByteSS.f (k : Nat) (l0 : List (List Int)) (l1 : List (List Int)) : Option (Bool) := if (l0.length : Int) = (l1.length : Int) then (laws_eqByteSS.l0 k l0 l1 0) else (some false)

set_option maxHeartbeats 8000000 in
set_option maxRecDepth 100000 in
theorem laws_eqByteSS.calls (k : Nat) (A0 : Option Addr) (c0 : Nat) (l0 : List (List Int)) (A1 : Option Addr) (c1 : Nat) (l1 : List (List Int)) (r : Bool) (w : World) (hr0 : Kd.C (Kd.slice 5 (Kd.int .u8)) w A0 l0.length l0) (hc0 : l0.length ≤ c0) (hr1 : Kd.C (Kd.slice 5 (Kd.int .u8)) w A1 l1.length l1) (hc1 : l1.length ≤ c1) (h : laws_eqByteSS.f k l0 l1 = some r) :
  Calls Try.prog 129 #[.slice A0 l0.length c0, .slice A1 l1.length c1] w fun e w' => e = .returned (.bool r) ∧ Drawn0 w w' := by
 have HR0 := Aside0.mk hr0
 have HC0 := Aside0.mk hc0
 clear hr0 hc0
 have HR1 := Aside0.mk hr1
 have HC1 := Aside0.mk hc1
 clear hr1 hc1
 have H : (if (l0.length : Int) = (l1.length : Int) then (laws_eqByteSS.l0 k l0 l1 0) else (some false)) = some r := h
 clear h
 by_cases c3 : (l0.length : Int) = (l1.length : Int)
 ·rw [if_pos c3] at H
  have c3b0 : ((l0.length : Int) == (l1.length : Int)) = true := beq_iff_eq.mpr c3
  have c3b1 : ((l0.length : Int) != (l1.length : Int)) = false := bne_eq_false_iff_eq.mpr c3
  have c3b2 : (l0.length == l1.length) = true := by first | simpa using c3 | (simp at c3 ⊢; omega)
  clear c3
  have H' := Aside0.mk H
  clear H
  go_enter Try.func129, Try.ntmps129
  go_wp2
  repeat (go_quiet (fail); try go_wp2)
  go_loopg [5] k (fun kq v5 w' => ∃ (x5_1 : Int), v5 = .int .i64 x5_1 ∧ Aside0 (laws_eqByteSS.l0 kq l0 l1 x5_1 = some r) ∧ Aside0 (kq ≤ k) ∧ Drawn0 w w')
  case atStart => exact ⟨(0), (by first | rfl | (simp; done) | (simp [*]; done)), H', ⟨Nat.le_refl _⟩, by repeat (first | exact Drawn0.refl _ | apply Drawn0.step)⟩
  case round =>
   clear H'
   try clear c1
   try clear p2
   try clear c3
   try clear c3b0
   try clear c3b1
   try clear c3b2
   obtain ⟨x5_1, rfl, HA, HK1, ⟨m1, rfl⟩⟩ := hrel
   cases gk with
   | zero => exact absurd HA.out (by simp [laws_eqByteSS.l0])
   | succ k1 =>
    have H := HA.out
    clear HA
    simp only [laws_eqByteSS.l0] at H
    by_cases c4 : x5_1 < (l0.length : Int)
    ·rw [if_pos c4] at H
     have c4b0 : decide (x5_1 < (l0.length : Int)) = true := decide_eq_true c4
     clear c4
     by_cases c5 : 0 ≤ x5_1
     ·rw [if_pos c5] at H
      have c5b0 : decide (0 ≤ x5_1) = true := decide_eq_true c5
      clear c5
      by_cases c6 : x5_1 < (l1.length : Int)
      ·rw [if_pos c6] at H
       have c6b0 : decide (x5_1 < (l1.length : Int)) = true := decide_eq_true c6
       clear c6
       replace H := Option.bind_eq_some_iff.mp H
       obtain ⟨t363, A70, H⟩ := H
       replace H : (if t363 = true then (laws_eqByteSS.l0 k1 l0 l1 (wrap64 (x5_1 + 1))) else (some false)) = some r := H
       have A7 := Aside0.mk A70
       clear A70
       by_cases c8 : t363 = true
       ·subst c8
        rw [if_pos rfl] at H
        have H' := Aside0.mk H
        clear H
        have p361 : 0 ≤ (x5_1 : Int) := of_decide_eq_true as_
        have q361 : x5_1 < (l0.length : Int) := of_decide_eq_true as_
        obtain ⟨ad361, A361_0, c361_0, e361, hx361_0, hl361_0, hi361_0⟩ := at_L1 HR0.out x5_1 p361 q361
        cases e361
        have HR361_0 := Aside0.mk hi361_0
        have HC361_0 := Aside0.mk hl361_0
        clear hi361_0 hl361_0
        replace p361 := eq_true p361
        replace q361 := eq_true q361
        have p362 : 0 ≤ (x5_1 : Int) := of_decide_eq_true as_
        have q362 : x5_1 < (l1.length : Int) := of_decide_eq_true as_
        obtain ⟨ad362, A362_0, c362_0, e362, hx362_0, hl362_0, hi362_0⟩ := at_L1 HR1.out x5_1 p362 q362
        cases e362
        have HR362_0 := Aside0.mk hi362_0
        have HC362_0 := Aside0.mk hl362_0
        clear hi362_0 hl362_0
        replace p362 := eq_true p362
        replace q362 := eq_true q362
        go_wp2_with (first | (go_at_call 19; (with_reducible refine (laws_eqByteS.calls k1 _ _ (rd_L1 l0 x5_1) _ _ (rd_L1 l1 x5_1) true _ ?side1 ?side2 ?side3 ?side4 A7.out).mono ?_); (case side1 => repeat (first | exact HR361_0.out | (with_reducible refine Kd.C_alloc ?_ _) | (with_reducible refine Kd.C_drewN ?_ _) | (with_reducible refine Kd.C_drew ?_))); (case side2 => exact HC361_0.out); (case side3 => repeat (first | exact HR362_0.out | (with_reducible refine Kd.C_alloc ?_ _) | (with_reducible refine Kd.C_drewN ?_ _) | (with_reducible refine Kd.C_drew ?_))); (case side4 => exact HC362_0.out); rintro e w' ⟨rfl, ⟨nd, rfl⟩⟩; (try first | exact ⟨rfl, _, World.drewN_drewN _ _ _⟩ | exact ⟨rfl, _, Eq.trans (World.drewN_drewN _ _ _) (congrArg (World.drewN _) (Nat.add_assoc _ _ _))⟩)))
        repeat (go_quiet (first | (go_at_call 19; (with_reducible refine (laws_eqByteS.calls k1 _ _ (rd_L1 l0 x5_1) _ _ (rd_L1 l1 x5_1) true _ ?side1 ?side2 ?side3 ?side4 A7.out).mono ?_); (case side1 => repeat (first | exact HR361_0.out | (with_reducible refine Kd.C_alloc ?_ _) | (with_reducible refine Kd.C_drewN ?_ _) | (with_reducible refine Kd.C_drew ?_))); (case side2 => exact HC361_0.out); (case side3 => repeat (first | exact HR362_0.out | (with_reducible refine Kd.C_alloc ?_ _) | (with_reducible refine Kd.C_drewN ?_ _) | (with_reducible refine Kd.C_drew ?_))); (case side4 => exact HC362_0.out); rintro e w' ⟨rfl, ⟨nd, rfl⟩⟩; (try first | exact ⟨rfl, _, World.drewN_drewN _ _ _⟩ | exact ⟨rfl, _, Eq.trans (World.drewN_drewN _ _ _) (congrArg (World.drewN _) (Nat.add_assoc _ _ _))⟩))); try go_wp2_with (first | (go_at_call 19; (with_reducible refine (laws_eqByteS.calls k1 _ _ (rd_L1 l0 x5_1) _ _ (rd_L1 l1 x5_1) true _ ?side1 ?side2 ?side3 ?side4 A7.out).mono ?_); (case side1 => repeat (first | exact HR361_0.out | (with_reducible refine Kd.C_alloc ?_ _) | (with_reducible refine Kd.C_drewN ?_ _) | (with_reducible refine Kd.C_drew ?_))); (case side2 => exact HC361_0.out); (case side3 => repeat (first | exact HR362_0.out | (with_reducible refine Kd.C_alloc ?_ _) | (with_reducible refine Kd.C_drewN ?_ _) | (with_reducible refine Kd.C_drew ?_))); (case side4 => exact HC362_0.out); rintro e w' ⟨rfl, ⟨nd, rfl⟩⟩; (try first | exact ⟨rfl, _, World.drewN_drewN _ _ _⟩ | exact ⟨rfl, _, Eq.trans (World.drewN_drewN _ _ _) (congrArg (World.drewN _) (Nat.add_assoc _ _ _))⟩))))
        go_roundg k1
        case measure => have := HK1.out; omega
        case rel => exact ⟨(wrap64 (x5_1 + 1)), (by first | rfl | (simp; done) | (simp [*]; done)), H', ⟨by have := HK1.out; omega⟩, by repeat (first | exact Drawn0.refl _ | apply Drawn0.step)⟩
       ·replace c8 := Bool.eq_false_iff.mpr c8
        subst c8
        rw [if_neg (show ¬ (false = true) by decide)] at H
        obtain rfl := Option.some.inj H
        have p361 : 0 ≤ (x5_1 : Int) := of_decide_eq_true as_
        have q361 : x5_1 < (l0.length : Int) := of_decide_eq_true as_
        obtain ⟨ad361, A361_0, c361_0, e361, hx361_0, hl361_0, hi361_0⟩ := at_L1 HR0.out x5_1 p361 q361
        cases e361
        have HR361_0 := Aside0.mk hi361_0
        have HC361_0 := Aside0.mk hl361_0
        clear hi361_0 hl361_0
        replace p361 := eq_true p361
        replace q361 := eq_true q361
        have p362 : 0 ≤ (x5_1 : Int) := of_decide_eq_true as_
        have q362 : x5_1 < (l1.length : Int) := of_decide_eq_true as_
        obtain ⟨ad362, A362_0, c362_0, e362, hx362_0, hl362_0, hi362_0⟩ := at_L1 HR1.out x5_1 p362 q362
        cases e362
        have HR362_0 := Aside0.mk hi362_0
        have HC362_0 := Aside0.mk hl362_0
        clear hi362_0 hl362_0
        replace p362 := eq_true p362
        replace q362 := eq_true q362
        go_wp2_with (first | (go_at_call 19; (with_reducible refine (laws_eqByteS.calls k1 _ _ (rd_L1 l0 x5_1) _ _ (rd_L1 l1 x5_1) false _ ?side1 ?side2 ?side3 ?side4 A7.out).mono ?_); (case side1 => repeat (first | exact HR361_0.out | (with_reducible refine Kd.C_alloc ?_ _) | (with_reducible refine Kd.C_drewN ?_ _) | (with_reducible refine Kd.C_drew ?_))); (case side2 => exact HC361_0.out); (case side3 => repeat (first | exact HR362_0.out | (with_reducible refine Kd.C_alloc ?_ _) | (with_reducible refine Kd.C_drewN ?_ _) | (with_reducible refine Kd.C_drew ?_))); (case side4 => exact HC362_0.out); rintro e w' ⟨rfl, ⟨nd, rfl⟩⟩; (try first | exact ⟨rfl, _, World.drewN_drewN _ _ _⟩ | exact ⟨rfl, _, Eq.trans (World.drewN_drewN _ _ _) (congrArg (World.drewN _) (Nat.add_assoc _ _ _))⟩)))
        repeat (go_quiet (first | (go_at_call 19; (with_reducible refine (laws_eqByteS.calls k1 _ _ (rd_L1 l0 x5_1) _ _ (rd_L1 l1 x5_1) false _ ?side1 ?side2 ?side3 ?side4 A7.out).mono ?_); (case side1 => repeat (first | exact HR361_0.out | (with_reducible refine Kd.C_alloc ?_ _) | (with_reducible refine Kd.C_drewN ?_ _) | (with_reducible refine Kd.C_drew ?_))); (case side2 => exact HC361_0.out); (case side3 => repeat (first | exact HR362_0.out | (with_reducible refine Kd.C_alloc ?_ _) | (with_reducible refine Kd.C_drewN ?_ _) | (with_reducible refine Kd.C_drew ?_))); (case side4 => exact HC362_0.out); rintro e w' ⟨rfl, ⟨nd, rfl⟩⟩; (try first | exact ⟨rfl, _, World.drewN_drewN _ _ _⟩ | exact ⟨rfl, _, Eq.trans (World.drewN_drewN _ _ _) (congrArg (World.drewN _) (Nat.add_assoc _ _ _))⟩))); try go_wp2_with (first | (go_at_call 19; (with_reducible refine (laws_eqByteS.calls k1 _ _ (rd_L1 l0 x5_1) _ _ (rd_L1 l1 x5_1) false _ ?side1 ?side2 ?side3 ?side4 A7.out).mono ?_); (case side1 => repeat (first | exact HR361_0.out | (with_reducible refine Kd.C_alloc ?_ _) | (with_reducible refine Kd.C_drewN ?_ _) | (with_reducible refine Kd.C_drew ?_))); (case side2 => exact HC361_0.out); (case side3 => repeat (first | exact HR362_0.out | (with_reducible refine Kd.C_alloc ?_ _) | (with_reducible refine Kd.C_drewN ?_ _) | (with_reducible refine Kd.C_drew ?_))); (case side4 => exact HC362_0.out); rintro e w' ⟨rfl, ⟨nd, rfl⟩⟩; (try first | exact ⟨rfl, _, World.drewN_drewN _ _ _⟩ | exact ⟨rfl, _, Eq.trans (World.drewN_drewN _ _ _) (congrArg (World.drewN _) (Nat.add_assoc _ _ _))⟩))))
        go_ret
        exact ⟨by first | rfl | (simp; done) | (simp [*]; done), by repeat (first | exact Drawn0.refl _ | apply Drawn0.step)⟩
      ·rw [if_neg c6] at H
       exact absurd H (by simp)
     ·rw [if_neg c5] at H
      exact absurd H (by simp)
    ·rw [if_neg c4] at H
     have c4b0 : decide (x5_1 < (l0.length : Int)) = false := decide_eq_false c4
     clear c4
     obtain rfl := Option.some.inj H
     go_wp2
     repeat (go_quiet (fail); try go_wp2)
     go_ret
     exact ⟨by first | rfl | (simp; done) | (simp [*]; done), by repeat (first | exact Drawn0.refl _ | apply Drawn0.step)⟩
 ·rw [if_neg c3] at H
  have c3b0 : ((l0.length : Int) == (l1.length : Int)) = false := beq_eq_false_iff_ne.mpr c3
  have c3b1 : ((l0.length : Int) != (l1.length : Int)) = true := bne_iff_ne.mpr c3
  have c3b2 : (l0.length == l1.length) = false := by first | simpa using c3 | (simp at c3 ⊢; omega)
  obtain rfl := Option.some.inj H
  go_enter Try.func129, Try.ntmps129
  go_wp2
  repeat (go_quiet (fail); try go_wp2)
  go_ret
  exact ⟨by first | rfl | (simp; done) | (simp [*]; done), by repeat (first | exact Drawn0.refl _ | apply Drawn0.step)⟩
end Go.Proofs.Ytmkcbbbknbahgaa.P
namespace Go.Proofs.Ytmkcbbbknbahgaa.P
open Go.RowKit Go.Proofs.YtmkcbbbknbahgaaW.PrintWords Go.Proofs.YtmkcbbbknbahgaaW.PrintLast Go.Proofs.YtmkcbbbknbahgaaW.PrintMore
attribute [local go_sem] max2_int min2_int max_two min_two max_three min_three max_four min_four   -- for this text's walks alone
set_option linter.unusedVariables false
set_option linter.unusedSimpArgs false

def laws_eqMemory.f (k : Nat) (l0_0 : List (List Int)) (l1_0 : List (List Int)) : Option (Bool) := (laws_eqByteSS.f k l0_0 l1_0).bind fun t366 => (if t366 = true then (some true) else (some false))

set_option maxHeartbeats 8000000 in
set_option maxRecDepth 100000 in
theorem laws_eqMemory.calls (k : Nat) (A0_0 : Option Addr) (c0_0 : Nat) (l0_0 : List (List Int)) (A1_0 : Option Addr) (c1_0 : Nat) (l1_0 : List (List Int)) (r : Bool) (w : World) (hr0_0 : Kd.C (Kd.slice 5 (Kd.int .u8)) w A0_0 l0_0.length l0_0) (hc0_0 : l0_0.length ≤ c0_0) (hr1_0 : Kd.C (Kd.slice 5 (Kd.int .u8)) w A1_0 l1_0.length l1_0) (hc1_0 : l1_0.length ≤ c1_0) (h : laws_eqMemory.f k l0_0 l1_0 = some r) :
  Calls Try.prog 61 #[.agg #[.slice A0_0 l0_0.length c0_0], .agg #[.slice A1_0 l1_0.length c1_0]] w fun e w' => e = .returned (.bool r) ∧ Below w.heap.size w w' := by
 have hu31 := Try.underlying31
 have HR0_0 := Aside0.mk hr0_0
 have HC0_0 := Aside0.mk hc0_0
 clear hr0_0 hc0_0
 have HR1_0 := Aside0.mk hr1_0
 have HC1_0 := Aside0.mk hc1_0
 clear hr1_0 hc1_0
 have HB := Aside0.mk (Below.refl w.heap.size w)
 have H : ((laws_eqByteSS.f k l0_0 l1_0).bind fun t366 => (if t366 = true then (some true) else (some false))) = some r := h
 clear h
 replace H := Option.bind_eq_some_iff.mp H
 obtain ⟨t366, A30, H⟩ := H
 replace H : (if t366 = true then (some true) else (some false)) = some r := H
 have A3 := Aside0.mk A30
 clear A30
 by_cases c4 : t366 = true
 ·subst c4
  rw [if_pos rfl] at H
  obtain rfl := Option.some.inj H
  go_enter Try.func61, Try.ntmps61
  go_wp2_with (first | ((with_reducible refine gate_dst (N := 2) rfl ?_); refine box_event ?hg (N := 2) ?hd (cs := #[.slice A0_0 l0_0.length c0_0]) (t := 31) ?hr ?_; (case hd => rfl); (case hg => rfl); (case hr => exact gs_); intro gb364 hg w5 hbox hb; have BK364 := Aside0.mk (hbox); have GW364 := gE_ HB hg; have GE364 := gE_ HB hg; replace HB := Aside0.mk (below_step (by repeat (first | (with_reducible first | exact HB.out | apply ba_ | apply bn_ | apply bd_) | exact HB.out)) hb); clear hb hbox hg) | ((with_reducible refine gate_dst (N := 3) rfl ?_); refine box_event ?hg (N := 3) ?hd (cs := #[.slice A1_0 l1_0.length c1_0]) (t := 31) ?hr ?_; (case hd => rfl); (case hg => rfl); (case hr => exact gs_); intro gb365 hg w6 hbox hb; have BK365 := Aside0.mk (hbox); have GW365 := gE_ HB hg; have GE365 := gE_ HB hg; replace HB := Aside0.mk (below_step (by repeat (first | (with_reducible first | exact HB.out | apply ba_ | apply bn_ | apply bd_ | refine bset_ ?_ (by assumption)) | exact HB.out)) hb); have NB364_365 := nB_ BK364 hg; have NB365_364 := nA_ BK364 hg; replace BK364 := bB_ BK364 hb; clear hb hbox hg; have hnb7 := NB364_365.out; have hnc7 := NB365_364.out; have hcz8_0 : w6.cell? ⟨gb364, 0, none⟩ = some (.slice A0_0 l0_0.length c0_0) := (blk_cell BK364.out 0).trans rfl; have hfz8_0 := blk_frozen BK364.out 0; have hcz9_0 : w6.cell? ⟨gb365, 0, none⟩ = some (.slice A1_0 l1_0.length c1_0) := (blk_cell BK365.out 0).trans rfl; have hfz9_0 := blk_frozen BK365.out 0) | ((with_reducible refine gate_callee (f := 129) rfl ?_); refine goesL_ (some 9) rfl rfl Try.func129 (by kernel_rfl) rfl #[.slice A0_0 l0_0.length c0_0, .slice A1_0 l1_0.length c1_0] rfl ar_ ?_; (with_reducible refine (laws_eqByteSS.calls k _ _ l0_0 _ _ l1_0 true _ ?side1 ?side2 ?side3 ?side4 A3.out).mono ?_); (case side1 => repeat (first | exact (Kd.C_below HR0_0.out HB.out) | (with_reducible refine Kd.C_alloc ?_ _) | (with_reducible refine Kd.C_drewN ?_ _) | (with_reducible refine Kd.C_drew ?_))); (case side2 => exact HC0_0.out); (case side3 => repeat (first | exact (Kd.C_below HR1_0.out HB.out) | (with_reducible refine Kd.C_alloc ?_ _) | (with_reducible refine Kd.C_drewN ?_ _) | (with_reducible refine Kd.C_drew ?_))); (case side4 => exact HC1_0.out); rintro e w' ⟨rfl, ⟨nd, rfl⟩⟩; refine ⟨_, rfl, ?_⟩))
  go_ret
  exact ⟨er_, by repeat (first | (with_reducible first | exact HB.out | apply below_alloc | apply pw_below_drewN | apply below_drew1 | refine below_set ?_ GE364.out | refine below_set ?_ GE365.out) | exact HB.out)⟩
 ·replace c4 := Bool.eq_false_iff.mpr c4
  subst c4
  rw [if_neg (show ¬ (false = true) by decide)] at H
  obtain rfl := Option.some.inj H
  go_enter Try.func61, Try.ntmps61
  go_wp2_with (first | ((with_reducible refine gate_dst (N := 2) rfl ?_); refine box_event ?hg (N := 2) ?hd (cs := #[.slice A0_0 l0_0.length c0_0]) (t := 31) ?hr ?_; (case hd => rfl); (case hg => rfl); (case hr => exact gs_); intro gb364 hg w10 hbox hb; have BK364 := Aside0.mk (hbox); have GW364 := gE_ HB hg; have GE364 := gE_ HB hg; replace HB := Aside0.mk (below_step (by repeat (first | (with_reducible first | exact HB.out | apply ba_ | apply bn_ | apply bd_) | exact HB.out)) hb); clear hb hbox hg) | ((with_reducible refine gate_dst (N := 3) rfl ?_); refine box_event ?hg (N := 3) ?hd (cs := #[.slice A1_0 l1_0.length c1_0]) (t := 31) ?hr ?_; (case hd => rfl); (case hg => rfl); (case hr => exact gs_); intro gb365 hg w11 hbox hb; have BK365 := Aside0.mk (hbox); have GW365 := gE_ HB hg; have GE365 := gE_ HB hg; replace HB := Aside0.mk (below_step (by repeat (first | (with_reducible first | exact HB.out | apply ba_ | apply bn_ | apply bd_ | refine bset_ ?_ (by assumption)) | exact HB.out)) hb); have NB364_365 := nB_ BK364 hg; have NB365_364 := nA_ BK364 hg; replace BK364 := bB_ BK364 hb; clear hb hbox hg; have hnb12 := NB364_365.out; have hnc12 := NB365_364.out; have hcz13_0 : w11.cell? ⟨gb364, 0, none⟩ = some (.slice A0_0 l0_0.length c0_0) := (blk_cell BK364.out 0).trans rfl; have hfz13_0 := blk_frozen BK364.out 0; have hcz14_0 : w11.cell? ⟨gb365, 0, none⟩ = some (.slice A1_0 l1_0.length c1_0) := (blk_cell BK365.out 0).trans rfl; have hfz14_0 := blk_frozen BK365.out 0) | ((with_reducible refine gate_callee (f := 129) rfl ?_); refine goesL_ (some 9) rfl rfl Try.func129 (by kernel_rfl) rfl #[.slice A0_0 l0_0.length c0_0, .slice A1_0 l1_0.length c1_0] rfl ar_ ?_; (with_reducible refine (laws_eqByteSS.calls k _ _ l0_0 _ _ l1_0 false _ ?side1 ?side2 ?side3 ?side4 A3.out).mono ?_); (case side1 => repeat (first | exact (Kd.C_below HR0_0.out HB.out) | (with_reducible refine Kd.C_alloc ?_ _) | (with_reducible refine Kd.C_drewN ?_ _) | (with_reducible refine Kd.C_drew ?_))); (case side2 => exact HC0_0.out); (case side3 => repeat (first | exact (Kd.C_below HR1_0.out HB.out) | (with_reducible refine Kd.C_alloc ?_ _) | (with_reducible refine Kd.C_drewN ?_ _) | (with_reducible refine Kd.C_drew ?_))); (case side4 => exact HC1_0.out); rintro e w' ⟨rfl, ⟨nd, rfl⟩⟩; refine ⟨_, rfl, ?_⟩))
  go_ret
  exact ⟨er_, by repeat (first | (with_reducible first | exact HB.out | apply below_alloc | apply pw_below_drewN | apply below_drew1 | refine below_set ?_ GE364.out | refine below_set ?_ GE365.out) | exact HB.out)⟩
end Go.Proofs.Ytmkcbbbknbahgaa.P
