/- Part 3 of the proof of FnExactNewConsole: the row, and what it rests on. -/
import Derived.Test.YthlppjdlljofdaaCFnExactNewConsole2
import Derived.Test.YthlppjdlljofdaaRows
import Derived.WalkKit
import Derived.ProofKit
import Derived.OpenShut
import Derived.ShutString
import Derived.ChangeOld
import Derived.Below
import Derived.SizedLaws
namespace Go.Proofs.Ythlppjdlljofdaa.P
open Go.RowKit Go.Proofs.YthlppjdlljofdaaW.PrintWords Go.Proofs.YthlppjdlljofdaaW.PrintLast Go.Proofs.YthlppjdlljofdaaW.PrintMore
attribute [local go_sem] max2_int min2_int max_two min_two max_three min_three max_four min_four   -- for this text's walks alone
set_option linter.unusedVariables false
set_option linter.unusedSimpArgs false

def laws_heldMemory.f (k : Nat) (l0_0 : List (List Int)) (a1 : Int) : Option (Int) := (laws_heldByteSS.f k l0_0 a1).bind fun t335 => (if t335 < 0 then (some (-1)) else (some t335))

set_option maxHeartbeats 8000000 in
set_option maxRecDepth 100000 in
theorem laws_heldMemory.calls (k : Nat) (A0_0 : Option Addr) (c0_0 : Nat) (l0_0 : List (List Int)) (a1 : Int) (r : Int) (w : World) (hr0_0 : Kd.C (Kd.slice 5 (Kd.int .u8)) w A0_0 l0_0.length l0_0) (hc0_0 : l0_0.length ≤ c0_0) (h : laws_heldMemory.f k l0_0 a1 = some r) :
    Calls Try.prog 144 #[.agg #[.slice A0_0 l0_0.length c0_0], .int .i64 a1] w fun e w' => e = .returned (.int .i64 r) ∧ Below w.heap.size w w' := by
  have hu31 := Try.underlying31
  have HR0_0 := Aside0.mk hr0_0
  have HC0_0 := Aside0.mk hc0_0
  clear hr0_0 hc0_0
  have HB := Aside0.mk (Below.refl w.heap.size w)
  have H : ((laws_heldByteSS.f k l0_0 a1).bind fun t335 => (if t335 < 0 then (some (-1)) else (some t335))) = some r := h
  clear h
  replace H := Option.bind_eq_some_iff.mp H
  obtain ⟨t335, A30, H⟩ := H
  replace H : (if t335 < 0 then (some (-1)) else (some t335)) = some r := H
  have A3 := Aside0.mk A30
  clear A30
  by_cases c4 : t335 < 0
  · rw [if_pos c4] at H
    have c4b0 : decide (t335 < 0) = true := decide_eq_true c4
    clear c4
    obtain rfl := Option.some.inj H
    go_enter Try.func144, Try.ntmps144
    go_wp2_with (first | ((with_reducible refine gate_dst (N := 2) rfl ?_); refine box_event ?hg (N := 2) ?hd (cs := #[.slice A0_0 l0_0.length c0_0]) (t := 31) ?hr ?_; (case hd => rfl); (case hg => rfl); (case hr => first | (go_simp; done) | (go_simp; rfl)); intro gb334 hg w5 hbox hb; have n0_ := Aside0.mk (below_step (by repeat (first | (with_reducible first | exact HB.out | apply below_alloc | apply pw_below_drewN | apply below_drew1) | exact HB.out)) hb); have n1_ := Aside0.mk (hbox); have n2_ := Aside0.mk ((by rw [hg]; exact (below_size (by repeat (first | (with_reducible first | exact HB.out | apply below_alloc | apply pw_below_drewN | apply below_drew1) | exact HB.out))) : w.heap.size ≤ gb334)); have n3_ := Aside0.mk ((by rw [hg]; exact (below_size (by repeat (first | (with_reducible first | exact HB.out | apply below_alloc | apply pw_below_drewN | apply below_drew1) | exact HB.out))) : w.heap.size ≤ gb334)); clear HB; have HB := n0_; have BK334 := n1_; have GW334 := n2_; have GE334 := n3_; clear n0_ n1_ n2_ n3_; clear hb hbox hg; have hcz6_0 : w5.cell? ⟨gb334, 0, none⟩ = some (.slice A0_0 l0_0.length c0_0) := (blk_cell BK334.out 0).trans rfl; have hfz6_0 := blk_frozen BK334.out 0) | ((with_reducible refine gate_callee (f := 271) rfl ?_); refine goesL_ (some 8) rfl rfl Try.func271 (by kernel_rfl) rfl #[.slice A0_0 l0_0.length c0_0, .int .i64 a1] rfl (by (try simp only [List.map_toArray, List.map_cons, List.map_nil]); first | done | rfl | (simp only [List.length_drop, List.length_take]; rfl)) ?_; (with_reducible refine (laws_heldByteSS.calls k _ _ l0_0 a1 t335 _ ?side1 ?side2 A3.out).mono ?_); (case side1 => repeat (first | exact (Kd.C_below HR0_0.out HB.out) | (with_reducible refine Kd.C_alloc ?_ _) | (with_reducible refine Kd.C_drewN ?_ _) | (with_reducible refine Kd.C_drew ?_))); (case side2 => exact HC0_0.out); rintro e w' ⟨rfl, ⟨nd, rfl⟩⟩; refine ⟨_, rfl, ?_⟩))
    go_ret
    exact ⟨by first | rfl | (simp [errW_none, errW_some] <;> rfl) | (simp [*, errW_none, errW_some] <;> rfl), by repeat (first | (with_reducible first | exact HB.out | apply below_alloc | apply pw_below_drewN | apply below_drew1 | refine below_set ?_ GE334.out) | exact HB.out)⟩
  · rw [if_neg c4] at H
    have c4b0 : decide (t335 < 0) = false := decide_eq_false c4
    clear c4
    obtain rfl := Option.some.inj H
    go_enter Try.func144, Try.ntmps144
    go_wp2_with (first | ((with_reducible refine gate_dst (N := 2) rfl ?_); refine box_event ?hg (N := 2) ?hd (cs := #[.slice A0_0 l0_0.length c0_0]) (t := 31) ?hr ?_; (case hd => rfl); (case hg => rfl); (case hr => first | (go_simp; done) | (go_simp; rfl)); intro gb334 hg w7 hbox hb; have n0_ := Aside0.mk (below_step (by repeat (first | (with_reducible first | exact HB.out | apply below_alloc | apply pw_below_drewN | apply below_drew1) | exact HB.out)) hb); have n1_ := Aside0.mk (hbox); have n2_ := Aside0.mk ((by rw [hg]; exact (below_size (by repeat (first | (with_reducible first | exact HB.out | apply below_alloc | apply pw_below_drewN | apply below_drew1) | exact HB.out))) : w.heap.size ≤ gb334)); have n3_ := Aside0.mk ((by rw [hg]; exact (below_size (by repeat (first | (with_reducible first | exact HB.out | apply below_alloc | apply pw_below_drewN | apply below_drew1) | exact HB.out))) : w.heap.size ≤ gb334)); clear HB; have HB := n0_; have BK334 := n1_; have GW334 := n2_; have GE334 := n3_; clear n0_ n1_ n2_ n3_; clear hb hbox hg; have hcz8_0 : w7.cell? ⟨gb334, 0, none⟩ = some (.slice A0_0 l0_0.length c0_0) := (blk_cell BK334.out 0).trans rfl; have hfz8_0 := blk_frozen BK334.out 0) | ((with_reducible refine gate_callee (f := 271) rfl ?_); refine goesL_ (some 8) rfl rfl Try.func271 (by kernel_rfl) rfl #[.slice A0_0 l0_0.length c0_0, .int .i64 a1] rfl (by (try simp only [List.map_toArray, List.map_cons, List.map_nil]); first | done | rfl | (simp only [List.length_drop, List.length_take]; rfl)) ?_; (with_reducible refine (laws_heldByteSS.calls k _ _ l0_0 a1 t335 _ ?side1 ?side2 A3.out).mono ?_); (case side1 => repeat (first | exact (Kd.C_below HR0_0.out HB.out) | (with_reducible refine Kd.C_alloc ?_ _) | (with_reducible refine Kd.C_drewN ?_ _) | (with_reducible refine Kd.C_drew ?_))); (case side2 => exact HC0_0.out); rintro e w' ⟨rfl, ⟨nd, rfl⟩⟩; refine ⟨_, rfl, ?_⟩))
    go_ret
    exact ⟨by first | rfl | (simp [errW_none, errW_some] <;> rfl) | (simp [*, errW_none, errW_some] <;> rfl), by repeat (first | (with_reducible first | exact HB.out | apply below_alloc | apply pw_below_drewN | apply below_drew1 | refine below_set ?_ GE334.out) | exact HB.out)⟩
end Go.Proofs.Ythlppjdlljofdaa.P
namespace Go.Proofs.Ythlppjdlljofdaa.P
open Go.RowKit Go.Proofs.YthlppjdlljofdaaW.PrintWords Go.Proofs.YthlppjdlljofdaaW.PrintLast Go.Proofs.YthlppjdlljofdaaW.PrintMore
attribute [local go_sem] max2_int min2_int max_two min_two max_three min_three max_four min_four   -- for this text's walks alone
set_option linter.unusedVariables false
set_option linter.unusedSimpArgs false

def laws_heldWindowS.l0 : Nat → List (S32) → Int → Int → Option (Int)
  | 0, _, _, _ => none
  | k + 1, x0, x1, x5 => if x5 < (x0.length : Int) then (if 0 ≤ x5 then (if ((rd_T32 x0 x5).f0) = x1 then (if ((rd_T32 x0 x5).f1) = (wrap64 (x1 + 1)) then (if ((rd_T32 x0 x5).f2) = (wrap64 ((wrap64 (x1 + 1)) + 1)) then (if ((rd_T32 x0 x5).f3) = (wrap64 ((wrap64 ((wrap64 (x1 + 1)) + 1)) + 1)) then (laws_heldWindowS.l0 k x0 (wrap64 ((wrap64 ((wrap64 ((wrap64 (x1 + 1)) + 1)) + 1)) + 1)) (wrap64 (x5 + 1))) else (some (-1))) else (some (-1))) else (some (-1))) else (some (-1))) else (none)) else (some x1)

def laws_heldWindowS.f (k : Nat) (l0 : List (S32)) (a1 : Int) : Option (Int) := laws_heldWindowS.l0 k l0 a1 0

set_option maxHeartbeats 8000000 in
set_option maxRecDepth 100000 in
theorem laws_heldWindowS.calls (k : Nat) (A0 : Option Addr) (c0 : Nat) (l0 : List (S32)) (a1 : Int) (r : Int) (w : World) (hr0 : Kd.C k32 w A0 l0.length l0) (hc0 : l0.length ≤ c0) (h : laws_heldWindowS.f k l0 a1 = some r) :
    Calls Try.prog 272 #[.slice A0 l0.length c0, .int .i64 a1] w fun e w' => e = .returned (.int .i64 r) ∧ Drawn0 w w' := by
  have HR0 := Aside0.mk hr0
  have HC0 := Aside0.mk hc0
  clear hr0 hc0
  have H : (laws_heldWindowS.l0 k l0 a1 0) = some r := h
  clear h
  have H' := Aside0.mk H
  clear H
  go_enter Try.func272, Try.ntmps272
  go_wp2
  go_loopg [1, 5] k (fun kq v1 v5 w' => ∃ (x1_1 : Int) (x5_1 : Int), v1 = .int .i64 x1_1 ∧ v5 = .int .i64 x5_1 ∧ Aside0 (laws_heldWindowS.l0 kq l0 x1_1 x5_1 = some r) ∧ Aside0 (kq ≤ k) ∧ Drawn0 w w')
  case atStart => exact ⟨(a1), (0), (by first | rfl | (simp; done) | (simp [*]; done)), (by first | rfl | (simp; done) | (simp [*]; done)), H', ⟨Nat.le_refl _⟩, by repeat (first | exact Drawn0.refl _ | apply Drawn0.step)⟩
  case round =>
    clear H'
    try clear c2
    try clear p2
    obtain ⟨x1_1, x5_1, rfl, rfl, HA, HK1, ⟨m1, rfl⟩⟩ := hrel
    cases gk with
    | zero => exact absurd HA.out (by simp [laws_heldWindowS.l0])
    | succ k1 =>
      have H := HA.out
      clear HA
      simp only [laws_heldWindowS.l0] at H
      by_cases c3 : x5_1 < (l0.length : Int)
      · rw [if_pos c3] at H
        have c3b0 : decide (x5_1 < (l0.length : Int)) = true := decide_eq_true c3
        clear c3
        by_cases c4 : 0 ≤ x5_1
        · rw [if_pos c4] at H
          have c4b0 : decide (0 ≤ x5_1) = true := decide_eq_true c4
          clear c4
          by_cases c5 : ((rd_T32 l0 x5_1).f0) = x1_1
          · rw [if_pos c5] at H
            have c5b0 : (((rd_T32 l0 x5_1).f0) == x1_1) = true := beq_iff_eq.mpr c5
            have c5b1 : (((rd_T32 l0 x5_1).f0) != x1_1) = false := bne_eq_false_iff_eq.mpr c5
            clear c5
            by_cases c6 : ((rd_T32 l0 x5_1).f1) = (wrap64 (x1_1 + 1))
            · rw [if_pos c6] at H
              have c6b0 : (((rd_T32 l0 x5_1).f1) == (wrap64 (x1_1 + 1))) = true := beq_iff_eq.mpr c6
              have c6b1 : (((rd_T32 l0 x5_1).f1) != (wrap64 (x1_1 + 1))) = false := bne_eq_false_iff_eq.mpr c6
              clear c6
              by_cases c7 : ((rd_T32 l0 x5_1).f2) = (wrap64 ((wrap64 (x1_1 + 1)) + 1))
              · rw [if_pos c7] at H
                have c7b0 : (((rd_T32 l0 x5_1).f2) == (wrap64 ((wrap64 (x1_1 + 1)) + 1))) = true := beq_iff_eq.mpr c7
                have c7b1 : (((rd_T32 l0 x5_1).f2) != (wrap64 ((wrap64 (x1_1 + 1)) + 1))) = false := bne_eq_false_iff_eq.mpr c7
                clear c7
                by_cases c8 : ((rd_T32 l0 x5_1).f3) = (wrap64 ((wrap64 ((wrap64 (x1_1 + 1)) + 1)) + 1))
                · rw [if_pos c8] at H
                  have c8b0 : (((rd_T32 l0 x5_1).f3) == (wrap64 ((wrap64 ((wrap64 (x1_1 + 1)) + 1)) + 1))) = true := beq_iff_eq.mpr c8
                  have c8b1 : (((rd_T32 l0 x5_1).f3) != (wrap64 ((wrap64 ((wrap64 (x1_1 + 1)) + 1)) + 1))) = false := bne_eq_false_iff_eq.mpr c8
                  clear c8
                  have H' := Aside0.mk H
                  clear H
                  have p467 : 0 ≤ (x5_1 : Int) := of_decide_eq_true (by first | (with_reducible assumption) | assumption)
                  have q467 : x5_1 < (l0.length : Int) := of_decide_eq_true (by first | (with_reducible assumption) | assumption)
                  obtain ⟨ad467, e467, hx467_0, hx467_1, hx467_2, hx467_3⟩ := at_T32 HR0.out x5_1 p467 q467
                  cases e467
                  replace p467 := eq_true p467
                  replace q467 := eq_true q467
                  have p468 : 0 ≤ (x5_1 : Int) := of_decide_eq_true (by first | (with_reducible assumption) | assumption)
                  have q468 : x5_1 < (l0.length : Int) := of_decide_eq_true (by first | (with_reducible assumption) | assumption)
                  obtain ⟨ad468, e468, hx468_0, hx468_1, hx468_2, hx468_3⟩ := at_T32 HR0.out x5_1 p468 q468
                  obtain rfl : ad467 = ad468 := (by injection e468)
                  replace p468 := eq_true p468
                  replace q468 := eq_true q468
                  have p469 : 0 ≤ (x5_1 : Int) := of_decide_eq_true (by first | (with_reducible assumption) | assumption)
                  have q469 : x5_1 < (l0.length : Int) := of_decide_eq_true (by first | (with_reducible assumption) | assumption)
                  obtain ⟨ad469, e469, hx469_0, hx469_1, hx469_2, hx469_3⟩ := at_T32 HR0.out x5_1 p469 q469
                  obtain rfl : ad467 = ad469 := (by injection e469)
                  replace p469 := eq_true p469
                  replace q469 := eq_true q469
                  have p470 : 0 ≤ (x5_1 : Int) := of_decide_eq_true (by first | (with_reducible assumption) | assumption)
                  have q470 : x5_1 < (l0.length : Int) := of_decide_eq_true (by first | (with_reducible assumption) | assumption)
                  obtain ⟨ad470, e470, hx470_0, hx470_1, hx470_2, hx470_3⟩ := at_T32 HR0.out x5_1 p470 q470
                  obtain rfl : ad467 = ad470 := (by injection e470)
                  replace p470 := eq_true p470
                  replace q470 := eq_true q470
                  go_wp2
                  go_roundg k1
                  case measure => have := HK1.out; omega
                  case rel => exact ⟨(wrap64 ((wrap64 ((wrap64 ((wrap64 (x1_1 + 1)) + 1)) + 1)) + 1)), (wrap64 (x5_1 + 1)), (by first | rfl | (simp; done) | (simp [*]; done)), (by first | rfl | (simp; done) | (simp [*]; done)), H', ⟨by have := HK1.out; omega⟩, by repeat (first | exact Drawn0.refl _ | apply Drawn0.step)⟩
                · rw [if_neg c8] at H
                  have c8b0 : (((rd_T32 l0 x5_1).f3) == (wrap64 ((wrap64 ((wrap64 (x1_1 + 1)) + 1)) + 1))) = false := beq_eq_false_iff_ne.mpr c8
                  have c8b1 : (((rd_T32 l0 x5_1).f3) != (wrap64 ((wrap64 ((wrap64 (x1_1 + 1)) + 1)) + 1))) = true := bne_iff_ne.mpr c8
                  obtain rfl := Option.some.inj H
                  have p467 : 0 ≤ (x5_1 : Int) := of_decide_eq_true (by first | (with_reducible assumption) | assumption)
                  have q467 : x5_1 < (l0.length : Int) := of_decide_eq_true (by first | (with_reducible assumption) | assumption)
                  obtain ⟨ad467, e467, hx467_0, hx467_1, hx467_2, hx467_3⟩ := at_T32 HR0.out x5_1 p467 q467
                  cases e467
                  replace p467 := eq_true p467
                  replace q467 := eq_true q467
                  have p468 : 0 ≤ (x5_1 : Int) := of_decide_eq_true (by first | (with_reducible assumption) | assumption)
                  have q468 : x5_1 < (l0.length : Int) := of_decide_eq_true (by first | (with_reducible assumption) | assumption)
                  obtain ⟨ad468, e468, hx468_0, hx468_1, hx468_2, hx468_3⟩ := at_T32 HR0.out x5_1 p468 q468
                  obtain rfl : ad467 = ad468 := (by injection e468)
                  replace p468 := eq_true p468
                  replace q468 := eq_true q468
                  have p469 : 0 ≤ (x5_1 : Int) := of_decide_eq_true (by first | (with_reducible assumption) | assumption)
                  have q469 : x5_1 < (l0.length : Int) := of_decide_eq_true (by first | (with_reducible assumption) | assumption)
                  obtain ⟨ad469, e469, hx469_0, hx469_1, hx469_2, hx469_3⟩ := at_T32 HR0.out x5_1 p469 q469
                  obtain rfl : ad467 = ad469 := (by injection e469)
                  replace p469 := eq_true p469
                  replace q469 := eq_true q469
                  have p470 : 0 ≤ (x5_1 : Int) := of_decide_eq_true (by first | (with_reducible assumption) | assumption)
                  have q470 : x5_1 < (l0.length : Int) := of_decide_eq_true (by first | (with_reducible assumption) | assumption)
                  obtain ⟨ad470, e470, hx470_0, hx470_1, hx470_2, hx470_3⟩ := at_T32 HR0.out x5_1 p470 q470
                  obtain rfl : ad467 = ad470 := (by injection e470)
                  replace p470 := eq_true p470
                  replace q470 := eq_true q470
                  go_wp2
                  go_ret
                  exact ⟨by first | rfl | (simp; done) | (simp [*]; done), by repeat (first | exact Drawn0.refl _ | apply Drawn0.step)⟩
              · rw [if_neg c7] at H
                have c7b0 : (((rd_T32 l0 x5_1).f2) == (wrap64 ((wrap64 (x1_1 + 1)) + 1))) = false := beq_eq_false_iff_ne.mpr c7
                have c7b1 : (((rd_T32 l0 x5_1).f2) != (wrap64 ((wrap64 (x1_1 + 1)) + 1))) = true := bne_iff_ne.mpr c7
                obtain rfl := Option.some.inj H
                have p467 : 0 ≤ (x5_1 : Int) := of_decide_eq_true (by first | (with_reducible assumption) | assumption)
                have q467 : x5_1 < (l0.length : Int) := of_decide_eq_true (by first | (with_reducible assumption) | assumption)
                obtain ⟨ad467, e467, hx467_0, hx467_1, hx467_2, hx467_3⟩ := at_T32 HR0.out x5_1 p467 q467
                cases e467
                replace p467 := eq_true p467
                replace q467 := eq_true q467
                have p468 : 0 ≤ (x5_1 : Int) := of_decide_eq_true (by first | (with_reducible assumption) | assumption)
                have q468 : x5_1 < (l0.length : Int) := of_decide_eq_true (by first | (with_reducible assumption) | assumption)
                obtain ⟨ad468, e468, hx468_0, hx468_1, hx468_2, hx468_3⟩ := at_T32 HR0.out x5_1 p468 q468
                obtain rfl : ad467 = ad468 := (by injection e468)
                replace p468 := eq_true p468
                replace q468 := eq_true q468
                have p469 : 0 ≤ (x5_1 : Int) := of_decide_eq_true (by first | (with_reducible assumption) | assumption)
                have q469 : x5_1 < (l0.length : Int) := of_decide_eq_true (by first | (with_reducible assumption) | assumption)
                obtain ⟨ad469, e469, hx469_0, hx469_1, hx469_2, hx469_3⟩ := at_T32 HR0.out x5_1 p469 q469
                obtain rfl : ad467 = ad469 := (by injection e469)
                replace p469 := eq_true p469
                replace q469 := eq_true q469
                go_wp2
                go_ret
                exact ⟨by first | rfl | (simp; done) | (simp [*]; done), by repeat (first | exact Drawn0.refl _ | apply Drawn0.step)⟩
            · rw [if_neg c6] at H
              have c6b0 : (((rd_T32 l0 x5_1).f1) == (wrap64 (x1_1 + 1))) = false := beq_eq_false_iff_ne.mpr c6
              have c6b1 : (((rd_T32 l0 x5_1).f1) != (wrap64 (x1_1 + 1))) = true := bne_iff_ne.mpr c6
              obtain rfl := Option.some.inj H
              have p467 : 0 ≤ (x5_1 : Int) := of_decide_eq_true (by first | (with_reducible assumption) | assumption)
              have q467 : x5_1 < (l0.length : Int) := of_decide_eq_true (by first | (with_reducible assumption) | assumption)
              obtain ⟨ad467, e467, hx467_0, hx467_1, hx467_2, hx467_3⟩ := at_T32 HR0.out x5_1 p467 q467
              cases e467
              replace p467 := eq_true p467
              replace q467 := eq_true q467
              have p468 : 0 ≤ (x5_1 : Int) := of_decide_eq_true (by first | (with_reducible assumption) | assumption)
              have q468 : x5_1 < (l0.length : Int) := of_decide_eq_true (by first | (with_reducible assumption) | assumption)
              obtain ⟨ad468, e468, hx468_0, hx468_1, hx468_2, hx468_3⟩ := at_T32 HR0.out x5_1 p468 q468
              obtain rfl : ad467 = ad468 := (by injection e468)
              replace p468 := eq_true p468
              replace q468 := eq_true q468
              go_wp2
              go_ret
              exact ⟨by first | rfl | (simp; done) | (simp [*]; done), by repeat (first | exact Drawn0.refl _ | apply Drawn0.step)⟩
          · rw [if_neg c5] at H
            have c5b0 : (((rd_T32 l0 x5_1).f0) == x1_1) = false := beq_eq_false_iff_ne.mpr c5
            have c5b1 : (((rd_T32 l0 x5_1).f0) != x1_1) = true := bne_iff_ne.mpr c5
            obtain rfl := Option.some.inj H
            have p467 : 0 ≤ (x5_1 : Int) := of_decide_eq_true (by first | (with_reducible assumption) | assumption)
            have q467 : x5_1 < (l0.length : Int) := of_decide_eq_true (by first | (with_reducible assumption) | assumption)
            obtain ⟨ad467, e467, hx467_0, hx467_1, hx467_2, hx467_3⟩ := at_T32 HR0.out x5_1 p467 q467
            cases e467
            replace p467 := eq_true p467
            replace q467 := eq_true q467
            go_wp2
            go_ret
            exact ⟨by first | rfl | (simp; done) | (simp [*]; done), by repeat (first | exact Drawn0.refl _ | apply Drawn0.step)⟩
        · rw [if_neg c4] at H
          exact absurd H (by simp)
      · rw [if_neg c3] at H
        have c3b0 : decide (x5_1 < (l0.length : Int)) = false := decide_eq_false c3
        clear c3
        obtain rfl := Option.some.inj H
        go_wp2
        go_ret
        exact ⟨by first | rfl | (simp; done) | (simp [*]; done), by repeat (first | exact Drawn0.refl _ | apply Drawn0.step)⟩
end Go.Proofs.Ythlppjdlljofdaa.P
namespace Go.Proofs.Ythlppjdlljofdaa.P
open Go.RowKit Go.Proofs.YthlppjdlljofdaaW.PrintWords Go.Proofs.YthlppjdlljofdaaW.PrintLast Go.Proofs.YthlppjdlljofdaaW.PrintMore
attribute [local go_sem] max2_int min2_int max_two min_two max_three min_three max_four min_four   -- for this text's walks alone
set_option linter.unusedVariables false
set_option linter.unusedSimpArgs false

def laws_heldDesk.f (k : Nat) (l0_0 : List (List Int)) (l0_1 : List (S32)) (a0_2 : Int) (a1 : Int) : Option (Int) := (laws_heldMemory.f k l0_0 a1).bind fun t472 => (if t472 < 0 then (some (-1)) else ((laws_heldWindowS.f k l0_1 t472).bind fun t473 => (if t473 < 0 then (some (-1)) else (some t473))))

set_option maxHeartbeats 8000000 in
set_option maxRecDepth 100000 in
theorem laws_heldDesk.calls (k : Nat) (A0_0 : Option Addr) (c0_0 : Nat) (l0_0 : List (List Int)) (A0_1 : Option Addr) (c0_1 : Nat) (l0_1 : List (S32)) (a0_2 : Int) (a1 : Int) (r : Int) (w : World) (hr0_0 : Kd.C (Kd.slice 5 (Kd.int .u8)) w A0_0 l0_0.length l0_0) (hc0_0 : l0_0.length ≤ c0_0) (hr0_1 : Kd.C k32 w A0_1 l0_1.length l0_1) (hc0_1 : l0_1.length ≤ c0_1) (h : laws_heldDesk.f k l0_0 l0_1 a0_2 a1 = some r) :
    Calls Try.prog 168 #[.agg #[.slice A0_0 l0_0.length c0_0, .slice A0_1 l0_1.length c0_1, .int .i64 a0_2], .int .i64 a1] w fun e w' => e = .returned (.int .i64 r) ∧ Below w.heap.size w w' := by
  have hu47 := Try.underlying47
  have hu31 := Try.underlying31
  have HR0_0 := Aside0.mk hr0_0
  have HC0_0 := Aside0.mk hc0_0
  clear hr0_0 hc0_0
  have HR0_1 := Aside0.mk hr0_1
  have HC0_1 := Aside0.mk hc0_1
  clear hr0_1 hc0_1
  have HB := Aside0.mk (Below.refl w.heap.size w)
  have H : ((laws_heldMemory.f k l0_0 a1).bind fun t472 => (if t472 < 0 then (some (-1)) else ((laws_heldWindowS.f k l0_1 t472).bind fun t473 => (if t473 < 0 then (some (-1)) else (some t473))))) = some r := h
  clear h
  replace H := Option.bind_eq_some_iff.mp H
  obtain ⟨t472, A30, H⟩ := H
  replace H : (if t472 < 0 then (some (-1)) else ((laws_heldWindowS.f k l0_1 t472).bind fun t473 => (if t473 < 0 then (some (-1)) else (some t473)))) = some r := H
  have A3 := Aside0.mk A30
  clear A30
  by_cases c4 : t472 < 0
  · rw [if_pos c4] at H
    have c4b0 : decide (t472 < 0) = true := decide_eq_true c4
    clear c4
    obtain rfl := Option.some.inj H
    go_enter Try.func168, Try.ntmps168
    go_wp2_with (first | ((with_reducible refine gate_dst (N := 2) rfl ?_); refine box_event ?hg (N := 2) ?hd (cs := #[.slice A0_0 l0_0.length c0_0, .slice A0_1 l0_1.length c0_1, .int .i64 a0_2]) (t := 47) ?hr ?_; (case hd => rfl); (case hg => rfl); (case hr => first | (go_simp; done) | (go_simp; rfl)); intro gb471 hg w5 hbox hb; have n0_ := Aside0.mk (below_step (by repeat (first | (with_reducible first | exact HB.out | apply below_alloc | apply pw_below_drewN | apply below_drew1) | exact HB.out)) hb); have n1_ := Aside0.mk (hbox); have n2_ := Aside0.mk ((by rw [hg]; exact (below_size (by repeat (first | (with_reducible first | exact HB.out | apply below_alloc | apply pw_below_drewN | apply below_drew1) | exact HB.out))) : w.heap.size ≤ gb471)); have n3_ := Aside0.mk ((by rw [hg]; exact (below_size (by repeat (first | (with_reducible first | exact HB.out | apply below_alloc | apply pw_below_drewN | apply below_drew1) | exact HB.out))) : w.heap.size ≤ gb471)); clear HB; have HB := n0_; have BK471 := n1_; have GW471 := n2_; have GE471 := n3_; clear n0_ n1_ n2_ n3_; clear hb hbox hg; have hcz6_0 : w5.cell? ⟨gb471, 0, none⟩ = some (.slice A0_0 l0_0.length c0_0) := (blk_cell BK471.out 0).trans rfl; have hcz6_1 : w5.cell? ⟨gb471, 1, none⟩ = some (.slice A0_1 l0_1.length c0_1) := (blk_cell BK471.out 1).trans rfl; have hcz6_2 : w5.cell? ⟨gb471, 2, none⟩ = some (.int .i64 a0_2) := (blk_cell BK471.out 2).trans rfl; have hfz6_0 := blk_frozen BK471.out 0; have hfz6_1 := blk_frozen BK471.out 1; have hfz6_2 := blk_frozen BK471.out 2) | ((with_reducible refine gate_callee (f := 144) rfl ?_); refine goesL_ (some 8) rfl rfl Try.func144 (by kernel_rfl) rfl #[.agg #[.slice A0_0 l0_0.length c0_0], .int .i64 a1] rfl (by (try simp only [List.map_toArray, List.map_cons, List.map_nil]); first | done | rfl | (simp only [List.length_drop, List.length_take]; rfl)) ?_; (with_reducible refine (laws_heldMemory.calls k _ _ l0_0 a1 t472 _ ?side1 ?side2 A3.out).mono ?_); (case side1 => repeat (first | exact (Kd.C_below HR0_0.out HB.out) | (with_reducible refine Kd.C_alloc ?_ _) | (with_reducible refine Kd.C_drewN ?_ _) | (with_reducible refine Kd.C_drew ?_))); (case side2 => exact HC0_0.out); rintro e w7 ⟨rfl, hb⟩; refine ⟨_, rfl, ?_⟩; have n0_ := Aside0.mk (blk_below (g := gb471) (o := .cells #[.slice A0_0 l0_0.length c0_0, .slice A0_1 l0_1.length c0_1, .int .i64 a0_2] 47 (0, 0)) (by (with_reducible repeat (first | refine blk_drewN ?_ _ | refine blk_drew ?_ | refine blk_alloc ?_ _)); exact BK471.out) hb); have n1_ := Aside0.mk (below_step (by repeat (first | (with_reducible first | exact HB.out | apply below_alloc | apply pw_below_drewN | apply below_drew1 | refine below_set ?_ GE471.out) | exact HB.out)) hb); clear BK471; clear HB; have BK471 := n0_; have HB := n1_; clear n0_ n1_; (try clear hb); (try clear hb2); (try clear hk); (try clear hi)))
    go_ret
    exact ⟨by first | rfl | (simp [errW_none, errW_some] <;> rfl) | (simp [*, errW_none, errW_some] <;> rfl), by repeat (first | (with_reducible first | exact HB.out | apply below_alloc | apply pw_below_drewN | apply below_drew1 | refine below_set ?_ GE471.out) | exact HB.out)⟩
  · rw [if_neg c4] at H
    have c4b0 : decide (t472 < 0) = false := decide_eq_false c4
    clear c4
    replace H := Option.bind_eq_some_iff.mp H
    obtain ⟨t473, A80, H⟩ := H
    replace H : (if t473 < 0 then (some (-1)) else (some t473)) = some r := H
    have A8 := Aside0.mk A80
    clear A80
    by_cases c9 : t473 < 0
    · rw [if_pos c9] at H
      have c9b0 : decide (t473 < 0) = true := decide_eq_true c9
      clear c9
      obtain rfl := Option.some.inj H
      go_enter Try.func168, Try.ntmps168
      go_wp2_with (first | ((with_reducible refine gate_dst (N := 2) rfl ?_); refine box_event ?hg (N := 2) ?hd (cs := #[.slice A0_0 l0_0.length c0_0, .slice A0_1 l0_1.length c0_1, .int .i64 a0_2]) (t := 47) ?hr ?_; (case hd => rfl); (case hg => rfl); (case hr => first | (go_simp; done) | (go_simp; rfl)); intro gb471 hg w10 hbox hb; have n0_ := Aside0.mk (below_step (by repeat (first | (with_reducible first | exact HB.out | apply below_alloc | apply pw_below_drewN | apply below_drew1) | exact HB.out)) hb); have n1_ := Aside0.mk (hbox); have n2_ := Aside0.mk ((by rw [hg]; exact (below_size (by repeat (first | (with_reducible first | exact HB.out | apply below_alloc | apply pw_below_drewN | apply below_drew1) | exact HB.out))) : w.heap.size ≤ gb471)); have n3_ := Aside0.mk ((by rw [hg]; exact (below_size (by repeat (first | (with_reducible first | exact HB.out | apply below_alloc | apply pw_below_drewN | apply below_drew1) | exact HB.out))) : w.heap.size ≤ gb471)); clear HB; have HB := n0_; have BK471 := n1_; have GW471 := n2_; have GE471 := n3_; clear n0_ n1_ n2_ n3_; clear hb hbox hg; have hcz11_0 : w10.cell? ⟨gb471, 0, none⟩ = some (.slice A0_0 l0_0.length c0_0) := (blk_cell BK471.out 0).trans rfl; have hcz11_1 : w10.cell? ⟨gb471, 1, none⟩ = some (.slice A0_1 l0_1.length c0_1) := (blk_cell BK471.out 1).trans rfl; have hcz11_2 : w10.cell? ⟨gb471, 2, none⟩ = some (.int .i64 a0_2) := (blk_cell BK471.out 2).trans rfl; have hfz11_0 := blk_frozen BK471.out 0; have hfz11_1 := blk_frozen BK471.out 1; have hfz11_2 := blk_frozen BK471.out 2) | ((with_reducible refine gate_callee (f := 144) rfl ?_); refine goesL_ (some 8) rfl rfl Try.func144 (by kernel_rfl) rfl #[.agg #[.slice A0_0 l0_0.length c0_0], .int .i64 a1] rfl (by (try simp only [List.map_toArray, List.map_cons, List.map_nil]); first | done | rfl | (simp only [List.length_drop, List.length_take]; rfl)) ?_; (with_reducible refine (laws_heldMemory.calls k _ _ l0_0 a1 t472 _ ?side1 ?side2 A3.out).mono ?_); (case side1 => repeat (first | exact (Kd.C_below HR0_0.out HB.out) | (with_reducible refine Kd.C_alloc ?_ _) | (with_reducible refine Kd.C_drewN ?_ _) | (with_reducible refine Kd.C_drew ?_))); (case side2 => exact HC0_0.out); rintro e w12 ⟨rfl, hb⟩; refine ⟨_, rfl, ?_⟩; have n0_ := Aside0.mk (blk_below (g := gb471) (o := .cells #[.slice A0_0 l0_0.length c0_0, .slice A0_1 l0_1.length c0_1, .int .i64 a0_2] 47 (0, 0)) (by (with_reducible repeat (first | refine blk_drewN ?_ _ | refine blk_drew ?_ | refine blk_alloc ?_ _)); exact BK471.out) hb); have n1_ := Aside0.mk (below_step (by repeat (first | (with_reducible first | exact HB.out | apply below_alloc | apply pw_below_drewN | apply below_drew1 | refine below_set ?_ GE471.out) | exact HB.out)) hb); clear BK471; clear HB; have BK471 := n0_; have HB := n1_; clear n0_ n1_; (try clear hb); (try clear hb2); (try clear hk); (try clear hi); have hcz13_0 : w12.cell? ⟨gb471, 0, none⟩ = some (.slice A0_0 l0_0.length c0_0) := (blk_cell BK471.out 0).trans rfl; have hcz13_1 : w12.cell? ⟨gb471, 1, none⟩ = some (.slice A0_1 l0_1.length c0_1) := (blk_cell BK471.out 1).trans rfl; have hcz13_2 : w12.cell? ⟨gb471, 2, none⟩ = some (.int .i64 a0_2) := (blk_cell BK471.out 2).trans rfl; have hfz13_0 := blk_frozen BK471.out 0; have hfz13_1 := blk_frozen BK471.out 1; have hfz13_2 := blk_frozen BK471.out 2) | ((with_reducible refine gate_callee (f := 272) rfl ?_); refine goesL_ (some 14) rfl rfl Try.func272 (by kernel_rfl) rfl #[.slice A0_1 l0_1.length c0_1, .int .i64 t472] rfl (by (try simp only [List.map_toArray, List.map_cons, List.map_nil]); first | done | rfl | (simp only [List.length_drop, List.length_take]; rfl)) ?_; (with_reducible refine (laws_heldWindowS.calls k _ _ l0_1 t472 t473 _ ?side1 ?side2 A8.out).mono ?_); (case side1 => repeat (first | exact (Kd.C_below HR0_1.out HB.out) | (with_reducible refine Kd.C_alloc ?_ _) | (with_reducible refine Kd.C_drewN ?_ _) | (with_reducible refine Kd.C_drew ?_))); (case side2 => exact HC0_1.out); rintro e w' ⟨rfl, ⟨nd, rfl⟩⟩; refine ⟨_, rfl, ?_⟩))
      go_ret
      exact ⟨by first | rfl | (simp [errW_none, errW_some] <;> rfl) | (simp [*, errW_none, errW_some] <;> rfl), by repeat (first | (with_reducible first | exact HB.out | apply below_alloc | apply pw_below_drewN | apply below_drew1 | refine below_set ?_ GE471.out) | exact HB.out)⟩
    · rw [if_neg c9] at H
      have c9b0 : decide (t473 < 0) = false := decide_eq_false c9
      clear c9
      obtain rfl := Option.some.inj H
      go_enter Try.func168, Try.ntmps168
      go_wp2_with (first | ((with_reducible refine gate_dst (N := 2) rfl ?_); refine box_event ?hg (N := 2) ?hd (cs := #[.slice A0_0 l0_0.length c0_0, .slice A0_1 l0_1.length c0_1, .int .i64 a0_2]) (t := 47) ?hr ?_; (case hd => rfl); (case hg => rfl); (case hr => first | (go_simp; done) | (go_simp; rfl)); intro gb471 hg w14 hbox hb; have n0_ := Aside0.mk (below_step (by repeat (first | (with_reducible first | exact HB.out | apply below_alloc | apply pw_below_drewN | apply below_drew1) | exact HB.out)) hb); have n1_ := Aside0.mk (hbox); have n2_ := Aside0.mk ((by rw [hg]; exact (below_size (by repeat (first | (with_reducible first | exact HB.out | apply below_alloc | apply pw_below_drewN | apply below_drew1) | exact HB.out))) : w.heap.size ≤ gb471)); have n3_ := Aside0.mk ((by rw [hg]; exact (below_size (by repeat (first | (with_reducible first | exact HB.out | apply below_alloc | apply pw_below_drewN | apply below_drew1) | exact HB.out))) : w.heap.size ≤ gb471)); clear HB; have HB := n0_; have BK471 := n1_; have GW471 := n2_; have GE471 := n3_; clear n0_ n1_ n2_ n3_; clear hb hbox hg; have hcz15_0 : w14.cell? ⟨gb471, 0, none⟩ = some (.slice A0_0 l0_0.length c0_0) := (blk_cell BK471.out 0).trans rfl; have hcz15_1 : w14.cell? ⟨gb471, 1, none⟩ = some (.slice A0_1 l0_1.length c0_1) := (blk_cell BK471.out 1).trans rfl; have hcz15_2 : w14.cell? ⟨gb471, 2, none⟩ = some (.int .i64 a0_2) := (blk_cell BK471.out 2).trans rfl; have hfz15_0 := blk_frozen BK471.out 0; have hfz15_1 := blk_frozen BK471.out 1; have hfz15_2 := blk_frozen BK471.out 2) | ((with_reducible refine gate_callee (f := 144) rfl ?_); refine goesL_ (some 8) rfl rfl Try.func144 (by kernel_rfl) rfl #[.agg #[.slice A0_0 l0_0.length c0_0], .int .i64 a1] rfl (by (try simp only [List.map_toArray, List.map_cons, List.map_nil]); first | done | rfl | (simp only [List.length_drop, List.length_take]; rfl)) ?_; (with_reducible refine (laws_heldMemory.calls k _ _ l0_0 a1 t472 _ ?side1 ?side2 A3.out).mono ?_); (case side1 => repeat (first | exact (Kd.C_below HR0_0.out HB.out) | (with_reducible refine Kd.C_alloc ?_ _) | (with_reducible refine Kd.C_drewN ?_ _) | (with_reducible refine Kd.C_drew ?_))); (case side2 => exact HC0_0.out); rintro e w16 ⟨rfl, hb⟩; refine ⟨_, rfl, ?_⟩; have n0_ := Aside0.mk (blk_below (g := gb471) (o := .cells #[.slice A0_0 l0_0.length c0_0, .slice A0_1 l0_1.length c0_1, .int .i64 a0_2] 47 (0, 0)) (by (with_reducible repeat (first | refine blk_drewN ?_ _ | refine blk_drew ?_ | refine blk_alloc ?_ _)); exact BK471.out) hb); have n1_ := Aside0.mk (below_step (by repeat (first | (with_reducible first | exact HB.out | apply below_alloc | apply pw_below_drewN | apply below_drew1 | refine below_set ?_ GE471.out) | exact HB.out)) hb); clear BK471; clear HB; have BK471 := n0_; have HB := n1_; clear n0_ n1_; (try clear hb); (try clear hb2); (try clear hk); (try clear hi); have hcz17_0 : w16.cell? ⟨gb471, 0, none⟩ = some (.slice A0_0 l0_0.length c0_0) := (blk_cell BK471.out 0).trans rfl; have hcz17_1 : w16.cell? ⟨gb471, 1, none⟩ = some (.slice A0_1 l0_1.length c0_1) := (blk_cell BK471.out 1).trans rfl; have hcz17_2 : w16.cell? ⟨gb471, 2, none⟩ = some (.int .i64 a0_2) := (blk_cell BK471.out 2).trans rfl; have hfz17_0 := blk_frozen BK471.out 0; have hfz17_1 := blk_frozen BK471.out 1; have hfz17_2 := blk_frozen BK471.out 2) | ((with_reducible refine gate_callee (f := 272) rfl ?_); refine goesL_ (some 14) rfl rfl Try.func272 (by kernel_rfl) rfl #[.slice A0_1 l0_1.length c0_1, .int .i64 t472] rfl (by (try simp only [List.map_toArray, List.map_cons, List.map_nil]); first | done | rfl | (simp only [List.length_drop, List.length_take]; rfl)) ?_; (with_reducible refine (laws_heldWindowS.calls k _ _ l0_1 t472 t473 _ ?side1 ?side2 A8.out).mono ?_); (case side1 => repeat (first | exact (Kd.C_below HR0_1.out HB.out) | (with_reducible refine Kd.C_alloc ?_ _) | (with_reducible refine Kd.C_drewN ?_ _) | (with_reducible refine Kd.C_drew ?_))); (case side2 => exact HC0_1.out); rintro e w' ⟨rfl, ⟨nd, rfl⟩⟩; refine ⟨_, rfl, ?_⟩))
      go_ret
      exact ⟨by first | rfl | (simp [errW_none, errW_some] <;> rfl) | (simp [*, errW_none, errW_some] <;> rfl), by repeat (first | (with_reducible first | exact HB.out | apply below_alloc | apply pw_below_drewN | apply below_drew1 | refine below_set ?_ GE471.out) | exact HB.out)⟩
end Go.Proofs.Ythlppjdlljofdaa.P
namespace Go.Proofs.Ythlppjdlljofdaa.P
open Go.RowKit Go.Proofs.YthlppjdlljofdaaW.PrintWords Go.Proofs.YthlppjdlljofdaaW.PrintLast Go.Proofs.YthlppjdlljofdaaW.PrintMore
attribute [local go_sem] max2_int min2_int max_two min_two max_three min_three max_four min_four   -- for this text's walks alone
set_option linter.unusedVariables false
set_option linter.unusedSimpArgs false

def laws_heldConsole.f (k : Nat) (l0_0 : List (List Int)) (l0_1 : List (S32)) (a0_2 : Int) (a0_3 : ByteArray) (a0_4 : ByteArray) (a0_5 : Int) (a1 : Int) : Option (Int) := (laws_heldDesk.f k l0_0 l0_1 a0_2 a1).bind fun t475 => (if t475 < 0 then (some (-1)) else (some t475))

set_option maxHeartbeats 8000000 in
set_option maxRecDepth 100000 in
theorem laws_heldConsole.calls (k : Nat) (A0_0 : Option Addr) (c0_0 : Nat) (l0_0 : List (List Int)) (A0_1 : Option Addr) (c0_1 : Nat) (l0_1 : List (S32)) (a0_2 : Int) (a0_3 : ByteArray) (a0_4 : ByteArray) (a0_5 : Int) (a1 : Int) (r : Int) (w : World) (hr0_0 : Kd.C (Kd.slice 5 (Kd.int .u8)) w A0_0 l0_0.length l0_0) (hc0_0 : l0_0.length ≤ c0_0) (hr0_1 : Kd.C k32 w A0_1 l0_1.length l0_1) (hc0_1 : l0_1.length ≤ c0_1) (h : laws_heldConsole.f k l0_0 l0_1 a0_2 a0_3 a0_4 a0_5 a1 = some r) :
    Calls Try.prog 30 #[.agg #[.slice A0_0 l0_0.length c0_0, .slice A0_1 l0_1.length c0_1, .int .i64 a0_2, .string a0_3, .string a0_4, .int .i64 a0_5], .int .i64 a1] w fun e w' => e = .returned (.int .i64 r) ∧ Below w.heap.size w w' := by
  have hu51 := Try.underlying51
  have hu47 := Try.underlying47
  have HR0_0 := Aside0.mk hr0_0
  have HC0_0 := Aside0.mk hc0_0
  clear hr0_0 hc0_0
  have HR0_1 := Aside0.mk hr0_1
  have HC0_1 := Aside0.mk hc0_1
  clear hr0_1 hc0_1
  have HB := Aside0.mk (Below.refl w.heap.size w)
  have H : ((laws_heldDesk.f k l0_0 l0_1 a0_2 a1).bind fun t475 => (if t475 < 0 then (some (-1)) else (some t475))) = some r := h
  clear h
  replace H := Option.bind_eq_some_iff.mp H
  obtain ⟨t475, A30, H⟩ := H
  replace H : (if t475 < 0 then (some (-1)) else (some t475)) = some r := H
  have A3 := Aside0.mk A30
  clear A30
  by_cases c4 : t475 < 0
  · rw [if_pos c4] at H
    have c4b0 : decide (t475 < 0) = true := decide_eq_true c4
    clear c4
    obtain rfl := Option.some.inj H
    go_enter Try.func30, Try.ntmps30
    go_wp2_with (first | ((with_reducible refine gate_dst (N := 2) rfl ?_); refine box_event ?hg (N := 2) ?hd (cs := #[.slice A0_0 l0_0.length c0_0, .slice A0_1 l0_1.length c0_1, .int .i64 a0_2, .string a0_3, .string a0_4, .int .i64 a0_5]) (t := 51) ?hr ?_; (case hd => rfl); (case hg => rfl); (case hr => first | (go_simp; done) | (go_simp; rfl)); intro gb474 hg w5 hbox hb; have n0_ := Aside0.mk (below_step (by repeat (first | (with_reducible first | exact HB.out | apply below_alloc | apply pw_below_drewN | apply below_drew1) | exact HB.out)) hb); have n1_ := Aside0.mk (hbox); have n2_ := Aside0.mk ((by rw [hg]; exact (below_size (by repeat (first | (with_reducible first | exact HB.out | apply below_alloc | apply pw_below_drewN | apply below_drew1) | exact HB.out))) : w.heap.size ≤ gb474)); have n3_ := Aside0.mk ((by rw [hg]; exact (below_size (by repeat (first | (with_reducible first | exact HB.out | apply below_alloc | apply pw_below_drewN | apply below_drew1) | exact HB.out))) : w.heap.size ≤ gb474)); clear HB; have HB := n0_; have BK474 := n1_; have GW474 := n2_; have GE474 := n3_; clear n0_ n1_ n2_ n3_; clear hb hbox hg; have hcz6_0 : w5.cell? ⟨gb474, 0, none⟩ = some (.slice A0_0 l0_0.length c0_0) := (blk_cell BK474.out 0).trans rfl; have hcz6_1 : w5.cell? ⟨gb474, 1, none⟩ = some (.slice A0_1 l0_1.length c0_1) := (blk_cell BK474.out 1).trans rfl; have hcz6_2 : w5.cell? ⟨gb474, 2, none⟩ = some (.int .i64 a0_2) := (blk_cell BK474.out 2).trans rfl; have hcz6_3 : w5.cell? ⟨gb474, 3, none⟩ = some (.string a0_3) := (blk_cell BK474.out 3).trans rfl; have hcz6_4 : w5.cell? ⟨gb474, 4, none⟩ = some (.string a0_4) := (blk_cell BK474.out 4).trans rfl; have hcz6_5 : w5.cell? ⟨gb474, 5, none⟩ = some (.int .i64 a0_5) := (blk_cell BK474.out 5).trans rfl; have hfz6_0 := blk_frozen BK474.out 0; have hfz6_1 := blk_frozen BK474.out 1; have hfz6_2 := blk_frozen BK474.out 2; have hfz6_3 := blk_frozen BK474.out 3; have hfz6_4 := blk_frozen BK474.out 4; have hfz6_5 := blk_frozen BK474.out 5) | ((with_reducible refine gate_callee (f := 168) rfl ?_); refine goesL_ (some 8) rfl rfl Try.func168 (by kernel_rfl) rfl #[.agg #[.slice A0_0 l0_0.length c0_0, .slice A0_1 l0_1.length c0_1, .int .i64 a0_2], .int .i64 a1] rfl (by (try simp only [List.map_toArray, List.map_cons, List.map_nil]); first | done | rfl | (simp only [List.length_drop, List.length_take]; rfl)) ?_; (with_reducible refine (laws_heldDesk.calls k _ _ l0_0 _ _ l0_1 a0_2 a1 t475 _ ?side1 ?side2 ?side3 ?side4 A3.out).mono ?_); (case side1 => repeat (first | exact (Kd.C_below HR0_0.out HB.out) | (with_reducible refine Kd.C_alloc ?_ _) | (with_reducible refine Kd.C_drewN ?_ _) | (with_reducible refine Kd.C_drew ?_))); (case side2 => exact HC0_0.out); (case side3 => repeat (first | exact (Kd.C_below HR0_1.out HB.out) | (with_reducible refine Kd.C_alloc ?_ _) | (with_reducible refine Kd.C_drewN ?_ _) | (with_reducible refine Kd.C_drew ?_))); (case side4 => exact HC0_1.out); rintro e w7 ⟨rfl, hb⟩; refine ⟨_, rfl, ?_⟩; have n0_ := Aside0.mk (blk_below (g := gb474) (o := .cells #[.slice A0_0 l0_0.length c0_0, .slice A0_1 l0_1.length c0_1, .int .i64 a0_2, .string a0_3, .string a0_4, .int .i64 a0_5] 51 (0, 0)) (by (with_reducible repeat (first | refine blk_drewN ?_ _ | refine blk_drew ?_ | refine blk_alloc ?_ _)); exact BK474.out) hb); have n1_ := Aside0.mk (below_step (by repeat (first | (with_reducible first | exact HB.out | apply below_alloc | apply pw_below_drewN | apply below_drew1 | refine below_set ?_ GE474.out) | exact HB.out)) hb); clear BK474; clear HB; have BK474 := n0_; have HB := n1_; clear n0_ n1_; (try clear hb); (try clear hb2); (try clear hk); (try clear hi)))
    go_ret
    exact ⟨by first | rfl | (simp [errW_none, errW_some] <;> rfl) | (simp [*, errW_none, errW_some] <;> rfl), by repeat (first | (with_reducible first | exact HB.out | apply below_alloc | apply pw_below_drewN | apply below_drew1 | refine below_set ?_ GE474.out) | exact HB.out)⟩
  · rw [if_neg c4] at H
    have c4b0 : decide (t475 < 0) = false := decide_eq_false c4
    clear c4
    obtain rfl := Option.some.inj H
    go_enter Try.func30, Try.ntmps30
    go_wp2_with (first | ((with_reducible refine gate_dst (N := 2) rfl ?_); refine box_event ?hg (N := 2) ?hd (cs := #[.slice A0_0 l0_0.length c0_0, .slice A0_1 l0_1.length c0_1, .int .i64 a0_2, .string a0_3, .string a0_4, .int .i64 a0_5]) (t := 51) ?hr ?_; (case hd => rfl); (case hg => rfl); (case hr => first | (go_simp; done) | (go_simp; rfl)); intro gb474 hg w8 hbox hb; have n0_ := Aside0.mk (below_step (by repeat (first | (with_reducible first | exact HB.out | apply below_alloc | apply pw_below_drewN | apply below_drew1) | exact HB.out)) hb); have n1_ := Aside0.mk (hbox); have n2_ := Aside0.mk ((by rw [hg]; exact (below_size (by repeat (first | (with_reducible first | exact HB.out | apply below_alloc | apply pw_below_drewN | apply below_drew1) | exact HB.out))) : w.heap.size ≤ gb474)); have n3_ := Aside0.mk ((by rw [hg]; exact (below_size (by repeat (first | (with_reducible first | exact HB.out | apply below_alloc | apply pw_below_drewN | apply below_drew1) | exact HB.out))) : w.heap.size ≤ gb474)); clear HB; have HB := n0_; have BK474 := n1_; have GW474 := n2_; have GE474 := n3_; clear n0_ n1_ n2_ n3_; clear hb hbox hg; have hcz9_0 : w8.cell? ⟨gb474, 0, none⟩ = some (.slice A0_0 l0_0.length c0_0) := (blk_cell BK474.out 0).trans rfl; have hcz9_1 : w8.cell? ⟨gb474, 1, none⟩ = some (.slice A0_1 l0_1.length c0_1) := (blk_cell BK474.out 1).trans rfl; have hcz9_2 : w8.cell? ⟨gb474, 2, none⟩ = some (.int .i64 a0_2) := (blk_cell BK474.out 2).trans rfl; have hcz9_3 : w8.cell? ⟨gb474, 3, none⟩ = some (.string a0_3) := (blk_cell BK474.out 3).trans rfl; have hcz9_4 : w8.cell? ⟨gb474, 4, none⟩ = some (.string a0_4) := (blk_cell BK474.out 4).trans rfl; have hcz9_5 : w8.cell? ⟨gb474, 5, none⟩ = some (.int .i64 a0_5) := (blk_cell BK474.out 5).trans rfl; have hfz9_0 := blk_frozen BK474.out 0; have hfz9_1 := blk_frozen BK474.out 1; have hfz9_2 := blk_frozen BK474.out 2; have hfz9_3 := blk_frozen BK474.out 3; have hfz9_4 := blk_frozen BK474.out 4; have hfz9_5 := blk_frozen BK474.out 5) | ((with_reducible refine gate_callee (f := 168) rfl ?_); refine goesL_ (some 8) rfl rfl Try.func168 (by kernel_rfl) rfl #[.agg #[.slice A0_0 l0_0.length c0_0, .slice A0_1 l0_1.length c0_1, .int .i64 a0_2], .int .i64 a1] rfl (by (try simp only [List.map_toArray, List.map_cons, List.map_nil]); first | done | rfl | (simp only [List.length_drop, List.length_take]; rfl)) ?_; (with_reducible refine (laws_heldDesk.calls k _ _ l0_0 _ _ l0_1 a0_2 a1 t475 _ ?side1 ?side2 ?side3 ?side4 A3.out).mono ?_); (case side1 => repeat (first | exact (Kd.C_below HR0_0.out HB.out) | (with_reducible refine Kd.C_alloc ?_ _) | (with_reducible refine Kd.C_drewN ?_ _) | (with_reducible refine Kd.C_drew ?_))); (case side2 => exact HC0_0.out); (case side3 => repeat (first | exact (Kd.C_below HR0_1.out HB.out) | (with_reducible refine Kd.C_alloc ?_ _) | (with_reducible refine Kd.C_drewN ?_ _) | (with_reducible refine Kd.C_drew ?_))); (case side4 => exact HC0_1.out); rintro e w10 ⟨rfl, hb⟩; refine ⟨_, rfl, ?_⟩; have n0_ := Aside0.mk (blk_below (g := gb474) (o := .cells #[.slice A0_0 l0_0.length c0_0, .slice A0_1 l0_1.length c0_1, .int .i64 a0_2, .string a0_3, .string a0_4, .int .i64 a0_5] 51 (0, 0)) (by (with_reducible repeat (first | refine blk_drewN ?_ _ | refine blk_drew ?_ | refine blk_alloc ?_ _)); exact BK474.out) hb); have n1_ := Aside0.mk (below_step (by repeat (first | (with_reducible first | exact HB.out | apply below_alloc | apply pw_below_drewN | apply below_drew1 | refine below_set ?_ GE474.out) | exact HB.out)) hb); clear BK474; clear HB; have BK474 := n0_; have HB := n1_; clear n0_ n1_; (try clear hb); (try clear hb2); (try clear hk); (try clear hi)))
    go_ret
    exact ⟨by first | rfl | (simp [errW_none, errW_some] <;> rfl) | (simp [*, errW_none, errW_some] <;> rfl), by repeat (first | (with_reducible first | exact HB.out | apply below_alloc | apply pw_below_drewN | apply below_drew1 | refine below_set ?_ GE474.out) | exact HB.out)⟩
end Go.Proofs.Ythlppjdlljofdaa.P
namespace Go.Proofs.Ythlppjdlljofdaa.P
open Go.RowKit Go.Proofs.YthlppjdlljofdaaW.PrintWords Go.Proofs.YthlppjdlljofdaaW.PrintLast Go.Proofs.YthlppjdlljofdaaW.PrintMore
set_option linter.unusedVariables false
set_option linter.unusedSimpArgs false

set_option maxHeartbeats 8000000 in
set_option maxRecDepth 100000 in
theorem FnExactNewConsole.walk (k : Nat) (A0_0 : Option Addr) (c0_0 : Nat) (l0_0 : List (List Int)) (A0_1 : Option Addr) (c0_1 : Nat) (l0_1 : List S26) (a0_2 : Int) (r5 : Int) (r13 : List (List Int)) (r14 : List S32) (r15 : Int) (r25 : List (List Int)) (r26 : List S32) (r27 : Int) (r28 : ByteArray) (r29 : ByteArray) (r30 : Int) (r31 : Bool) (m98 : Int) (x99 : List (List Int)) (x100 : List S32) (m132 : Int) (x133 : List (List Int)) (x134 : List S32) (w : World) (HR0_0 : Kd.C (Kd.slice 5 (Kd.int .u8)) w A0_0 l0_0.length l0_0) (HC0_0 : l0_0.length ≤ c0_0) (HR0_1 : Kd.C k26 w A0_1 l0_1.length l0_1) (HC0_1 : l0_1.length ≤ c0_1) (e6 : laws_szDesk.f k l0_0 l0_1 a0_2 1048576 = some r5) (n_r5 : ¬ r5 < 0) (e16 : laws_toDesk.f k l0_0 l0_1 a0_2 = some (r13, r14, r15)) (e32 : spec_NewConsole.f k r13 r14 r15 = some (r25, r26, r27, r28, r29, r30, r31)) (e59 : impl_NewConsole.f k r13 r14 r15 = some (r25, r26, r27, r28, r29, r30, r31)) (e78 : laws_eqConsole.f k r25 r26 r27 r28 r29 r30 r25 r26 r27 r28 r29 r30 = some true) (e91 : laws_eqDesk.f k r13 r14 r15 r13 r14 r15 = some true) (e101 : laws_markDesk.f k r13 r14 1 = some (m98, x99, x100)) (n_m98 : ¬ m98 < 0) (e135 : laws_markConsole.f k r25 r26 1 = some (m132, x133, x134)) (e149 : laws_heldConsole.f k x133 x134 r27 r28 r29 r30 1 = some m132) (n_m132 : ¬ m132 < 0) :
    Calls Try.prog 4 #[.agg #[.slice A0_0 l0_0.length c0_0, .slice A0_1 l0_1.length c0_1, .int .i64 a0_2]] w fun e w' => e = .returned (.bool true) ∧ Below w.heap.size w w' := by
  have hu43 := Try.underlying43
  have hu47 := Try.underlying47
  have hu51 := Try.underlying51
  replace HR0_0 := Aside0.mk HR0_0
  replace HC0_0 := Aside0.mk HC0_0
  replace HR0_1 := Aside0.mk HR0_1
  replace HC0_1 := Aside0.mk HC0_1
  replace e6 := Aside0.mk e6
  replace n_r5 := decide_eq_false n_r5
  replace e16 := Aside0.mk e16
  replace e32 := Aside0.mk e32
  replace e59 := Aside0.mk e59
  replace e78 := Aside0.mk e78
  replace e91 := Aside0.mk e91
  replace e101 := Aside0.mk e101
  replace n_m98 := decide_eq_false n_m98
  replace e135 := Aside0.mk e135
  replace e149 := Aside0.mk e149
  replace n_m132 := decide_eq_false n_m132
  have HB := Aside0.mk (Below.refl w.heap.size w)
  go_enter Try.func4, Try.ntmps4
  go_wp2_with fail
  have HA2 := Below.alloc (Below.refl w.heap.size w) (Nat.le_refl _) (.cells #[.slice A0_0 l0_0.length c0_0, .slice A0_1 l0_1.length c0_1, .int .i64 a0_2] 43)
  have BK1 := Aside0.mk (heap_alloc_new w (.cells #[.slice A0_0 l0_0.length c0_0, .slice A0_1 l0_1.length c0_1, .int .i64 a0_2] 43))
  replace HB := Aside0.mk (below_step HB.out HA2)
  have Z3 := Aside0.mk (show w.heap.size < (w.alloc (.cells #[.slice A0_0 l0_0.length c0_0, .slice A0_1 l0_1.length c0_1, .int .i64 a0_2] 43)).heap.size by simp)
  clear HA2
  refine (laws_szDesk.calls k A0_0 c0_0 l0_0 A0_1 c0_1 l0_1 a0_2 1048576 r5 (w.alloc (.cells #[.slice A0_0 l0_0.length c0_0, .slice A0_1 l0_1.length c0_1, .int .i64 a0_2] 43)) (Kd.C_below HR0_0.out HB.out) HC0_0.out (Kd.C_below HR0_1.out HB.out) HC0_1.out e6.out).mono ?_
  rintro e w4 ⟨rfl, hb⟩
  replace BK1 := Aside0.mk (blk_below BK1.out hb)
  have Z7 := Aside0.mk (below_size hb)
  replace HB := Aside0.mk (below_step HB.out hb)
  clear hb 
  have hz8 : w4.cell? ⟨w.heap.size, 0, none⟩ = some (.slice A0_0 l0_0.length c0_0) := (blk_cell BK1.out 0).trans rfl
  have hz9 : w4.cell? ⟨w.heap.size, 1, none⟩ = some (.slice A0_1 l0_1.length c0_1) := (blk_cell BK1.out 1).trans rfl
  have hz10 : w4.cell? ⟨w.heap.size, 2, none⟩ = some (.int .i64 a0_2) := (blk_cell BK1.out 2).trans rfl
  have hl11 : w.heap.size < w4.heap.size := blk_lt BK1.out
  go_wp2_with fail
  clear hz8 hz9 hz10 hl11
  refine (laws_toDesk.calls k A0_0 c0_0 l0_0 A0_1 c0_1 l0_1 a0_2 r13 r14 r15 w4 (Kd.C_below HR0_0.out HB.out) HC0_0.out (Kd.C_below HR0_1.out HB.out) HC0_1.out e16.out).mono ?_
  rintro e w12 ⟨v0_w12, v1_w12, rfl, h0_w12, h1_w12, hb⟩
  replace BK1 := Aside0.mk (blk_below BK1.out hb)
  obtain ⟨A17, c18, rfl⟩ := Kd.S_slice h0_w12
  have O19 := Aside0.mk (show Kd.S (Kd.slice 5 (Kd.int .u8)) 62 w12 w.heap.size (Seg w4.heap.size w12.heap.size w12 [62, 5]) (.slice A17 r13.length c18) r13 from Kd.S_lower (Kd.S_mono (Kd.S_bound h0_w12) (fun k_ hk => ⟨hk.2.1, hk.2.2.1, hk.2.2.2⟩)) (below_size HB.out))
  obtain ⟨A20, c21, rfl⟩ := Kd.R_slice h1_w12
  have O22 := Aside0.mk (show Kd.R k32 32 w12 w.heap.size (Seg w4.heap.size w12.heap.size w12 [32]) (.slice A20 r14.length c21) r14 from Kd.R_lower (Kd.R_mono (Kd.R_bound h1_w12) (fun k_ hk => ⟨hk.2.1, hk.2.2.1, hk.2.2.2⟩)) (below_size HB.out))
  have Z23 := Aside0.mk (below_size hb)
  replace HB := Aside0.mk (below_step HB.out hb)
  clear hb h0_w12 h1_w12
  go_wp2_with fail
  refine (spec_NewConsole.calls k A17 c18 r13 A20 c21 r14 r15 r25 r26 r27 r28 r29 r30 r31 w12 (Kd.S_reads' O19.out).2.2 (Kd.S_reads' O19.out).2.1 (Kd.R_reads' O22.out).2.2 (Kd.R_reads' O22.out).2.1 e32.out).mono ?_
  rintro e w24 ⟨v0_w24, v1_w24, rfl, h0_w24, h1_w24, hb⟩
  replace BK1 := Aside0.mk (blk_below BK1.out hb)
  replace O19 := Aside0.mk (Kd.S_below O19.out hb)
  replace O22 := Aside0.mk (Kd.R_below O22.out hb)
  obtain ⟨A33, c34, rfl⟩ := Kd.S_slice h0_w24
  have O35 := Aside0.mk (show Kd.S (Kd.slice 5 (Kd.int .u8)) 62 w24 w.heap.size (Seg w12.heap.size w24.heap.size w24 [62, 5]) (.slice A33 r25.length c34) r25 from Kd.S_lower (Kd.S_mono (Kd.S_bound h0_w24) (fun k_ hk => ⟨hk.2.1, hk.2.2.1, hk.2.2.2⟩)) (below_size HB.out))
  obtain ⟨A36, c37, rfl⟩ := Kd.R_slice h1_w24
  have O38 := Aside0.mk (show Kd.R k32 32 w24 w.heap.size (Seg w12.heap.size w24.heap.size w24 [32]) (.slice A36 r26.length c37) r26 from Kd.R_lower (Kd.R_mono (Kd.R_bound h1_w24) (fun k_ hk => ⟨hk.2.1, hk.2.2.1, hk.2.2.2⟩)) (below_size HB.out))
  have Z39 := Aside0.mk (below_size hb)
  replace HB := Aside0.mk (below_step HB.out hb)
  clear hb h0_w24 h1_w24
  clear O19 O22
  have hz40 : w24.cell? ⟨w.heap.size, 0, none⟩ = some (.slice A0_0 l0_0.length c0_0) := (blk_cell BK1.out 0).trans rfl
  have hz41 : w24.cell? ⟨w.heap.size, 1, none⟩ = some (.slice A0_1 l0_1.length c0_1) := (blk_cell BK1.out 1).trans rfl
  have hz42 : w24.cell? ⟨w.heap.size, 2, none⟩ = some (.int .i64 a0_2) := (blk_cell BK1.out 2).trans rfl
  have hl43 : w.heap.size < w24.heap.size := blk_lt BK1.out
  go_wp2_with fail
  clear hz40 hz41 hz42 hl43
  have HA45 := Below.alloc (Below.refl w24.heap.size w24) (Nat.le_refl _) (.cells #[.slice A33 r25.length c34, .slice A36 r26.length c37, .int .i64 r27, .string r28, .string r29, .int .i64 r30] 51)
  replace BK1 := Aside0.mk (blk_below BK1.out HA45)
  replace O35 := Aside0.mk (Kd.S_below O35.out HA45)
  replace O38 := Aside0.mk (Kd.R_below O38.out HA45)
  have BK44 := Aside0.mk (heap_alloc_new w24 (.cells #[.slice A33 r25.length c34, .slice A36 r26.length c37, .int .i64 r27, .string r28, .string r29, .int .i64 r30] 51))
  replace HB := Aside0.mk (below_step HB.out HA45)
  have Z46 := Aside0.mk (show w24.heap.size < (w24.alloc (.cells #[.slice A33 r25.length c34, .slice A36 r26.length c37, .int .i64 r27, .string r28, .string r29, .int .i64 r30] 51)).heap.size by simp)
  clear HA45
  refine (laws_toDesk.calls k A0_0 c0_0 l0_0 A0_1 c0_1 l0_1 a0_2 r13 r14 r15 (w24.alloc (.cells #[.slice A33 r25.length c34, .slice A36 r26.length c37, .int .i64 r27, .string r28, .string r29, .int .i64 r30] 51)) (Kd.C_below HR0_0.out HB.out) HC0_0.out (Kd.C_below HR0_1.out HB.out) HC0_1.out e16.out).mono ?_
  rintro e w47 ⟨v0_w47, v1_w47, rfl, h0_w47, h1_w47, hb⟩
  replace BK1 := Aside0.mk (blk_below BK1.out hb)
  replace O35 := Aside0.mk (Kd.S_below O35.out hb)
  replace O38 := Aside0.mk (Kd.R_below O38.out hb)
  replace BK44 := Aside0.mk (blk_below BK44.out hb)
  obtain ⟨A48, c49, rfl⟩ := Kd.S_slice h0_w47
  have O50 := Aside0.mk (show Kd.S (Kd.slice 5 (Kd.int .u8)) 62 w47 w.heap.size (Seg (w24.heap.size + 1) w47.heap.size w47 [62, 5]) (.slice A48 r13.length c49) r13 from Kd.S_lower (Kd.S_mono (Kd.S_bound h0_w47) (fun k_ hk => ⟨(by simpa using hk.2.1), hk.2.2.1, hk.2.2.2⟩)) (below_size HB.out))
  obtain ⟨A51, c52, rfl⟩ := Kd.R_slice h1_w47
  have O53 := Aside0.mk (show Kd.R k32 32 w47 w.heap.size (Seg (w24.heap.size + 1) w47.heap.size w47 [32]) (.slice A51 r14.length c52) r14 from Kd.R_lower (Kd.R_mono (Kd.R_bound h1_w47) (fun k_ hk => ⟨(by simpa using hk.2.1), hk.2.2.1, hk.2.2.2⟩)) (below_size HB.out))
  have Z54 := Aside0.mk (below_size hb)
  replace HB := Aside0.mk (below_step HB.out hb)
  clear hb h0_w47 h1_w47
  go_wp2_with fail
  have HA56 := Below.alloc (Below.refl w47.heap.size w47) (Nat.le_refl _) (.cells #[.slice A48 r13.length c49, .slice A51 r14.length c52, .int .i64 r15] 47)
  replace BK1 := Aside0.mk (blk_below BK1.out HA56)
  replace O35 := Aside0.mk (Kd.S_below O35.out HA56)
  replace O38 := Aside0.mk (Kd.R_below O38.out HA56)
  replace BK44 := Aside0.mk (blk_below BK44.out HA56)
  replace O50 := Aside0.mk (Kd.S_below O50.out HA56)
  replace O53 := Aside0.mk (Kd.R_below O53.out HA56)
  have BK55 := Aside0.mk (heap_alloc_new w47 (.cells #[.slice A48 r13.length c49, .slice A51 r14.length c52, .int .i64 r15] 47))
  replace HB := Aside0.mk (below_step HB.out HA56)
  have Z57 := Aside0.mk (show w47.heap.size < (w47.alloc (.cells #[.slice A48 r13.length c49, .slice A51 r14.length c52, .int .i64 r15] 47)).heap.size by simp)
  clear HA56
  refine (impl_NewConsole.calls k A48 c49 r13 A51 c52 r14 r15 r25 r26 r27 r28 r29 r30 r31 (w47.alloc (.cells #[.slice A48 r13.length c49, .slice A51 r14.length c52, .int .i64 r15] 47)) (Kd.S_reads' O50.out).2.2 (Kd.S_reads' O50.out).2.1 (Kd.R_reads' O53.out).2.2 (Kd.R_reads' O53.out).2.1 e59.out).mono ?_
  rintro e w58 ⟨v0_w58, v1_w58, rfl, h0_w58, h1_w58, hb⟩
  replace BK1 := Aside0.mk (blk_below BK1.out hb)
  replace O35 := Aside0.mk (Kd.S_below O35.out hb)
  replace O38 := Aside0.mk (Kd.R_below O38.out hb)
  replace BK44 := Aside0.mk (blk_below BK44.out hb)
  replace O50 := Aside0.mk (Kd.S_below O50.out hb)
  replace O53 := Aside0.mk (Kd.R_below O53.out hb)
  replace BK55 := Aside0.mk (blk_below BK55.out hb)
  obtain ⟨A60, c61, rfl⟩ := Kd.S_slice h0_w58
  have O62 := Aside0.mk (show Kd.S (Kd.slice 5 (Kd.int .u8)) 62 w58 w.heap.size (Seg (w47.heap.size + 1) w58.heap.size w58 [62, 5]) (.slice A60 r25.length c61) r25 from Kd.S_lower (Kd.S_mono (Kd.S_bound h0_w58) (fun k_ hk => ⟨(by simpa using hk.2.1), hk.2.2.1, hk.2.2.2⟩)) (below_size HB.out))
  obtain ⟨A63, c64, rfl⟩ := Kd.R_slice h1_w58
  have O65 := Aside0.mk (show Kd.R k32 32 w58 w.heap.size (Seg (w47.heap.size + 1) w58.heap.size w58 [32]) (.slice A63 r26.length c64) r26 from Kd.R_lower (Kd.R_mono (Kd.R_bound h1_w58) (fun k_ hk => ⟨(by simpa using hk.2.1), hk.2.2.1, hk.2.2.2⟩)) (below_size HB.out))
  have Z66 := Aside0.mk (below_size hb)
  replace HB := Aside0.mk (below_step HB.out hb)
  clear hb h0_w58 h1_w58
  have hz67 : w58.cell? ⟨w24.heap.size, 0, none⟩ = some (.slice A33 r25.length c34) := (blk_cell BK44.out 0).trans rfl
  have hz68 : w58.cell? ⟨w24.heap.size, 1, none⟩ = some (.slice A36 r26.length c37) := (blk_cell BK44.out 1).trans rfl
  have hz69 : w58.cell? ⟨w24.heap.size, 2, none⟩ = some (.int .i64 r27) := (blk_cell BK44.out 2).trans rfl
  have hz70 : w58.cell? ⟨w24.heap.size, 3, none⟩ = some (.string r28) := (blk_cell BK44.out 3).trans rfl
  have hz71 : w58.cell? ⟨w24.heap.size, 4, none⟩ = some (.string r29) := (blk_cell BK44.out 4).trans rfl
  have hz72 : w58.cell? ⟨w24.heap.size, 5, none⟩ = some (.int .i64 r30) := (blk_cell BK44.out 5).trans rfl
  have hl73 : w24.heap.size < w58.heap.size := blk_lt BK44.out
  go_wp2_with fail
  clear hz67 hz68 hz69 hz70 hz71 hz72 hl73
  have HA75 := Below.alloc (Below.refl w58.heap.size w58) (Nat.le_refl _) (.cells #[.slice A60 r25.length c61, .slice A63 r26.length c64, .int .i64 r27, .string r28, .string r29, .int .i64 r30] 51)
  replace BK1 := Aside0.mk (blk_below BK1.out HA75)
  replace O35 := Aside0.mk (Kd.S_below O35.out HA75)
  replace O38 := Aside0.mk (Kd.R_below O38.out HA75)
  replace BK44 := Aside0.mk (blk_below BK44.out HA75)
  replace O50 := Aside0.mk (Kd.S_below O50.out HA75)
  replace O53 := Aside0.mk (Kd.R_below O53.out HA75)
  replace BK55 := Aside0.mk (blk_below BK55.out HA75)
  replace O62 := Aside0.mk (Kd.S_below O62.out HA75)
  replace O65 := Aside0.mk (Kd.R_below O65.out HA75)
  have BK74 := Aside0.mk (heap_alloc_new w58 (.cells #[.slice A60 r25.length c61, .slice A63 r26.length c64, .int .i64 r27, .string r28, .string r29, .int .i64 r30] 51))
  replace HB := Aside0.mk (below_step HB.out HA75)
  have Z76 := Aside0.mk (show w58.heap.size < (w58.alloc (.cells #[.slice A60 r25.length c61, .slice A63 r26.length c64, .int .i64 r27, .string r28, .string r29, .int .i64 r30] 51)).heap.size by simp)
  clear HA75
  refine (laws_eqConsole.calls k A60 c61 r25 A63 c64 r26 r27 r28 r29 r30 A33 c34 r25 A36 c37 r26 r27 r28 r29 r30 true (w58.alloc (.cells #[.slice A60 r25.length c61, .slice A63 r26.length c64, .int .i64 r27, .string r28, .string r29, .int .i64 r30] 51)) (Kd.S_reads' O62.out).2.2 (Kd.S_reads' O62.out).2.1 (Kd.R_reads' O65.out).2.2 (Kd.R_reads' O65.out).2.1 (Kd.S_reads' O35.out).2.2 (Kd.S_reads' O35.out).2.1 (Kd.R_reads' O38.out).2.2 (Kd.R_reads' O38.out).2.1 e78.out).mono ?_
  rintro e w77 ⟨rfl, hb⟩
  replace BK1 := Aside0.mk (blk_below BK1.out hb)
  replace O35 := Aside0.mk (Kd.S_below O35.out hb)
  replace O38 := Aside0.mk (Kd.R_below O38.out hb)
  replace BK44 := Aside0.mk (blk_below BK44.out hb)
  replace O50 := Aside0.mk (Kd.S_below O50.out hb)
  replace O53 := Aside0.mk (Kd.R_below O53.out hb)
  replace BK55 := Aside0.mk (blk_below BK55.out hb)
  replace O62 := Aside0.mk (Kd.S_below O62.out hb)
  replace O65 := Aside0.mk (Kd.R_below O65.out hb)
  replace BK74 := Aside0.mk (blk_below BK74.out hb)
  have Z79 := Aside0.mk (below_size hb)
  replace HB := Aside0.mk (below_step HB.out hb)
  clear hb 
  go_wp2_with fail
  refine start_ (n := 5) (S := fun w' => w'.cell? ⟨w47.heap.size, 0, none⟩ = some (.slice A48 r13.length c49) ∧ w'.cell? ⟨w47.heap.size, 1, none⟩ = some (.slice A51 r14.length c52) ∧ w'.cell? ⟨w47.heap.size, 2, none⟩ = some (.int .i64 r15) ∧ w'.cell? ⟨w.heap.size, 0, none⟩ = some (.slice A0_0 l0_0.length c0_0) ∧ w'.cell? ⟨w.heap.size, 1, none⟩ = some (.slice A0_1 l0_1.length c0_1) ∧ w'.cell? ⟨w.heap.size, 2, none⟩ = some (.int .i64 a0_2)) (ds := []) #[false, false, false, false, false] (by kernel_rfl) rfl rfl ⟨(blk_cell BK55.out 0).trans rfl, (blk_cell BK55.out 1).trans rfl, (blk_cell BK55.out 2).trans rfl, (blk_cell BK1.out 0).trans rfl, (blk_cell BK1.out 1).trans rfl, (blk_cell BK1.out 2).trans rfl⟩ (fun hHeld => ?_)
  replace BK1 := Aside0.mk (blk_drew BK1.out)
  replace O35 := Aside0.mk (Kd.S_drew O35.out)
  replace O38 := Aside0.mk (Kd.R_drew O38.out)
  replace BK44 := Aside0.mk (blk_drew BK44.out)
  replace O50 := Aside0.mk (Kd.S_drew O50.out)
  replace O53 := Aside0.mk (Kd.R_drew O53.out)
  replace BK55 := Aside0.mk (blk_drew BK55.out)
  replace O62 := Aside0.mk (Kd.S_drew O62.out)
  replace O65 := Aside0.mk (Kd.R_drew O65.out)
  replace BK74 := Aside0.mk (blk_drew BK74.out)
  replace HB := Aside0.mk (below_drew1 HB.out)
  have Z81 := Aside0.mk (show w77.heap.size ≤ w77.drew.heap.size from Nat.le_refl _)
  generalize w77.drew = w80 at BK1 O35 O38 BK44 O50 O53 BK55 O62 O65 BK74 HB Z81 hHeld ⊢
  refine take_ (i := 0) (N := some 41) (v := ?_) (a' := ?_) #[true, false, false, false, false] rfl rfl (by kernel_rfl) (fun _ _ _ h => h) (Or.inl ⟨by rfl, ?_⟩) hHeld ?_ ?_
  rotate_left
  · rintro w' ⟨s0, s1, s2, s3, s4, s5⟩
    go_simp
    with_reducible rfl
  rotate_left
  · simp only [Act.put, List.setIfInBounds_toArray, List.set_cons_zero, List.set_cons_succ, i64_w, i32_w]
    rfl
  refine take_ (i := 1) (N := some 42) (v := ?_) (a' := ?_) #[true, true, false, false, false] rfl rfl (by kernel_rfl) (fun _ _ _ h => h) (Or.inl ⟨by rfl, ?_⟩) hHeld ?_ ?_
  rotate_left
  · rintro w' ⟨s0, s1, s2, s3, s4, s5⟩
    go_simp
    with_reducible rfl
  rotate_left
  · simp only [Act.put, List.setIfInBounds_toArray, List.set_cons_zero, List.set_cons_succ, i64_w, i32_w]
    rfl
  refine one_ (i := 2) (N := some 43) #[true, true, true, false, false] rfl rfl (by kernel_rfl) (by decide) (fun K hK => ?_)
  refine goes_ Try.func24 (by kernel_rfl) rfl #[.agg #[.slice A0_0 l0_0.length c0_0, .slice A0_1 l0_1.length c0_1, .int .i64 a0_2]] (by rfl) rfl rfl (by (try simp only [List.map_toArray, List.map_cons, List.map_nil]); first | done | rfl) ?_
  with_reducible refine (laws_toDesk.calls k A0_0 c0_0 l0_0 A0_1 c0_1 l0_1 a0_2 r13 r14 r15 w80 (Kd.C_below HR0_0.out HB.out) HC0_0.out (Kd.C_below HR0_1.out HB.out) HC0_1.out e16.out).mono ?_
  rintro e w82 ⟨v0_w82, v1_w82, rfl, h0_w82, h1_w82, hb⟩
  refine ⟨_, rfl, ?_⟩
  replace BK1 := Aside0.mk (blk_below BK1.out hb)
  replace O35 := Aside0.mk (Kd.S_below O35.out hb)
  replace O38 := Aside0.mk (Kd.R_below O38.out hb)
  replace BK44 := Aside0.mk (blk_below BK44.out hb)
  replace O50 := Aside0.mk (Kd.S_below O50.out hb)
  replace O53 := Aside0.mk (Kd.R_below O53.out hb)
  replace BK55 := Aside0.mk (blk_below BK55.out hb)
  replace O62 := Aside0.mk (Kd.S_below O62.out hb)
  replace O65 := Aside0.mk (Kd.R_below O65.out hb)
  replace BK74 := Aside0.mk (blk_below BK74.out hb)
  obtain ⟨A83, c84, rfl⟩ := Kd.S_slice h0_w82
  have O85 := Aside0.mk (show Kd.S (Kd.slice 5 (Kd.int .u8)) 62 w82 w.heap.size (Seg w80.heap.size w82.heap.size w82 [62, 5]) (.slice A83 r13.length c84) r13 from Kd.S_lower (Kd.S_mono (Kd.S_bound h0_w82) (fun k_ hk => ⟨hk.2.1, hk.2.2.1, hk.2.2.2⟩)) (below_size HB.out))
  obtain ⟨A86, c87, rfl⟩ := Kd.R_slice h1_w82
  have O88 := Aside0.mk (show Kd.R k32 32 w82 w.heap.size (Seg w80.heap.size w82.heap.size w82 [32]) (.slice A86 r14.length c87) r14 from Kd.R_lower (Kd.R_mono (Kd.R_bound h1_w82) (fun k_ hk => ⟨hk.2.1, hk.2.2.1, hk.2.2.2⟩)) (below_size HB.out))
  have Z89 := Aside0.mk (below_size hb)
  replace HB := Aside0.mk (below_step HB.out hb)
  clear hb h0_w82 h1_w82
  refine hK.out _ _ ⟨(blk_cell BK55.out 0).trans rfl, (blk_cell BK55.out 1).trans rfl, (blk_cell BK55.out 2).trans rfl, (blk_cell BK1.out 0).trans rfl, (blk_cell BK1.out 1).trans rfl, (blk_cell BK1.out 2).trans rfl⟩ (fun hHeld => ?_)
  clear hK K
  refine norm_ (a' := ?_) ?_ ?_
  rotate_left
  · show Act.put _ (some 43) _ = _
    simp only [Act.put, List.setIfInBounds_toArray, List.set_cons_zero, List.set_cons_succ, i64_w, i32_w]
    rfl
  refine one_ (i := 3) (N := some 44) #[true, true, true, true, false] rfl rfl (by kernel_rfl) (by decide) (fun K hK => ?_)
  refine goes_ Try.func27 (by kernel_rfl) rfl #[.agg #[.slice A48 r13.length c49, .slice A51 r14.length c52, .int .i64 r15], .agg #[.slice A83 r13.length c84, .slice A86 r14.length c87, .int .i64 r15]] (by rfl) rfl rfl (by (try simp only [List.map_toArray, List.map_cons, List.map_nil]); first | done | rfl) ?_
  with_reducible refine (laws_eqDesk.calls k A48 c49 r13 A51 c52 r14 r15 A83 c84 r13 A86 c87 r14 r15 true w82 (Kd.S_reads' O50.out).2.2 (Kd.S_reads' O50.out).2.1 (Kd.R_reads' O53.out).2.2 (Kd.R_reads' O53.out).2.1 (Kd.S_reads' O85.out).2.2 (Kd.S_reads' O85.out).2.1 (Kd.R_reads' O88.out).2.2 (Kd.R_reads' O88.out).2.1 e91.out).mono ?_
  rintro e w90 ⟨rfl, hb⟩
  refine ⟨_, rfl, ?_⟩
  replace BK1 := Aside0.mk (blk_below BK1.out hb)
  replace O35 := Aside0.mk (Kd.S_below O35.out hb)
  replace O38 := Aside0.mk (Kd.R_below O38.out hb)
  replace BK44 := Aside0.mk (blk_below BK44.out hb)
  replace O50 := Aside0.mk (Kd.S_below O50.out hb)
  replace O53 := Aside0.mk (Kd.R_below O53.out hb)
  replace BK55 := Aside0.mk (blk_below BK55.out hb)
  replace O62 := Aside0.mk (Kd.S_below O62.out hb)
  replace O65 := Aside0.mk (Kd.R_below O65.out hb)
  replace BK74 := Aside0.mk (blk_below BK74.out hb)
  replace O85 := Aside0.mk (Kd.S_below O85.out hb)
  replace O88 := Aside0.mk (Kd.R_below O88.out hb)
  have Z92 := Aside0.mk (below_size hb)
  replace HB := Aside0.mk (below_step HB.out hb)
  clear hb 
  refine hK.out _ _ ⟨(blk_cell BK55.out 0).trans rfl, (blk_cell BK55.out 1).trans rfl, (blk_cell BK55.out 2).trans rfl, (blk_cell BK1.out 0).trans rfl, (blk_cell BK1.out 1).trans rfl, (blk_cell BK1.out 2).trans rfl⟩ (fun hHeld => ?_)
  clear hK K
  refine norm_ (a' := ?_) ?_ ?_
  rotate_left
  · show Act.put _ (some 44) _ = _
    simp only [Act.put, List.setIfInBounds_toArray, List.set_cons_zero, List.set_cons_succ, i64_w, i32_w]
    rfl
  refine pure_ (i := 4) (N := some 45) (v := ?_) (a' := ?_) #[true, true, true, true, true] rfl rfl (by kernel_rfl) (fun _ _ _ h => h) (Or.inl ⟨by rfl, ?_⟩) ?_ ?_
  rotate_left
  · intro w'
    go_simp
    with_reducible rfl
  rotate_left
  · simp only [Act.put, List.setIfInBounds_toArray, List.set_cons_zero, List.set_cons_succ, i64_w, i32_w]
    rfl
  refine done_ (by kernel_rfl) ?_
  clear hHeld
  clear O85 O88
  have hz93 : w90.cell? ⟨w47.heap.size, 0, none⟩ = some (.slice A48 r13.length c49) := (blk_cell BK55.out 0).trans rfl
  have hz94 : w90.cell? ⟨w47.heap.size, 1, none⟩ = some (.slice A51 r14.length c52) := (blk_cell BK55.out 1).trans rfl
  have hz95 : w90.cell? ⟨w47.heap.size, 2, none⟩ = some (.int .i64 r15) := (blk_cell BK55.out 2).trans rfl
  have hl96 : w47.heap.size < w90.heap.size := blk_lt BK55.out
  go_wp2_with fail
  clear hz93 hz94 hz95 hl96
  refine (laws_markDesk.calls k (Seg (w24.heap.size + 1) w47.heap.size w47 [62, 5]) _ r13 (Seg (w24.heap.size + 1) w47.heap.size w47 [32]) _ r14 r15 1 m98 x99 x100 w w90 HB.out O50.out O53.out (fun k_ h1 h2 => Ty_ne h1.2.2 h2.2.2 (by decide)) e101.out).mono ?_
  rintro e w97 ⟨rfl, h102, h103, hb, hk⟩
  replace BK1 := Aside0.mk (blk_kept BK1.out hk (fun hs => hs.elim (fun hq => (by have := hq.1; have := hq.2.1; have := Z3.out; have := Z7.out; have := Z23.out; have := Z39.out; have := Z46.out; have := Z54.out; have := Z57.out; have := Z66.out; have := Z76.out; have := Z79.out; have := Z81.out; have := Z89.out; have := Z92.out; omega)) (fun hs' => (by have := hs'.1; have := hs'.2.1; have := Z3.out; have := Z7.out; have := Z23.out; have := Z39.out; have := Z46.out; have := Z54.out; have := Z57.out; have := Z66.out; have := Z76.out; have := Z79.out; have := Z81.out; have := Z89.out; have := Z92.out; omega))))
  replace O35 := Aside0.mk (Kd.S_step O35.out (fun k_ hk_ hlt => hk.2 k_ hlt (fun hs => hs.elim (fun hq => (by have := hq.1; have := hq.2.1; have := hk_.1; have := hk_.2.1; have := Z3.out; have := Z7.out; have := Z23.out; have := Z39.out; have := Z46.out; have := Z54.out; have := Z57.out; have := Z66.out; have := Z76.out; have := Z79.out; have := Z81.out; have := Z89.out; have := Z92.out;  omega)) (fun hs' => (by have := hs'.1; have := hs'.2.1; have := hk_.1; have := hk_.2.1; have := Z3.out; have := Z7.out; have := Z23.out; have := Z39.out; have := Z46.out; have := Z54.out; have := Z57.out; have := Z66.out; have := Z76.out; have := Z79.out; have := Z81.out; have := Z89.out; have := Z92.out;  omega)))))
  replace O38 := Aside0.mk (Kd.R_step O38.out (fun k_ hk_ hlt => hk.2 k_ hlt (fun hs => hs.elim (fun hq => (by have := hq.1; have := hq.2.1; have := hk_.1; have := hk_.2.1; have := Z3.out; have := Z7.out; have := Z23.out; have := Z39.out; have := Z46.out; have := Z54.out; have := Z57.out; have := Z66.out; have := Z76.out; have := Z79.out; have := Z81.out; have := Z89.out; have := Z92.out;  omega)) (fun hs' => (by have := hs'.1; have := hs'.2.1; have := hk_.1; have := hk_.2.1; have := Z3.out; have := Z7.out; have := Z23.out; have := Z39.out; have := Z46.out; have := Z54.out; have := Z57.out; have := Z66.out; have := Z76.out; have := Z79.out; have := Z81.out; have := Z89.out; have := Z92.out;  omega)))))
  replace BK44 := Aside0.mk (blk_kept BK44.out hk (fun hs => hs.elim (fun hq => (by have := hq.1; have := hq.2.1; have := Z3.out; have := Z7.out; have := Z23.out; have := Z39.out; have := Z46.out; have := Z54.out; have := Z57.out; have := Z66.out; have := Z76.out; have := Z79.out; have := Z81.out; have := Z89.out; have := Z92.out; omega)) (fun hs' => (by have := hs'.1; have := hs'.2.1; have := Z3.out; have := Z7.out; have := Z23.out; have := Z39.out; have := Z46.out; have := Z54.out; have := Z57.out; have := Z66.out; have := Z76.out; have := Z79.out; have := Z81.out; have := Z89.out; have := Z92.out; omega))))
  replace BK55 := Aside0.mk (blk_kept BK55.out hk (fun hs => hs.elim (fun hq => (by have := hq.1; have := hq.2.1; have := Z3.out; have := Z7.out; have := Z23.out; have := Z39.out; have := Z46.out; have := Z54.out; have := Z57.out; have := Z66.out; have := Z76.out; have := Z79.out; have := Z81.out; have := Z89.out; have := Z92.out; omega)) (fun hs' => (by have := hs'.1; have := hs'.2.1; have := Z3.out; have := Z7.out; have := Z23.out; have := Z39.out; have := Z46.out; have := Z54.out; have := Z57.out; have := Z66.out; have := Z76.out; have := Z79.out; have := Z81.out; have := Z89.out; have := Z92.out; omega))))
  replace O62 := Aside0.mk (Kd.S_step O62.out (fun k_ hk_ hlt => hk.2 k_ hlt (fun hs => hs.elim (fun hq => (by have := hq.1; have := hq.2.1; have := hk_.1; have := hk_.2.1; have := Z3.out; have := Z7.out; have := Z23.out; have := Z39.out; have := Z46.out; have := Z54.out; have := Z57.out; have := Z66.out; have := Z76.out; have := Z79.out; have := Z81.out; have := Z89.out; have := Z92.out;  omega)) (fun hs' => (by have := hs'.1; have := hs'.2.1; have := hk_.1; have := hk_.2.1; have := Z3.out; have := Z7.out; have := Z23.out; have := Z39.out; have := Z46.out; have := Z54.out; have := Z57.out; have := Z66.out; have := Z76.out; have := Z79.out; have := Z81.out; have := Z89.out; have := Z92.out;  omega)))))
  replace O65 := Aside0.mk (Kd.R_step O65.out (fun k_ hk_ hlt => hk.2 k_ hlt (fun hs => hs.elim (fun hq => (by have := hq.1; have := hq.2.1; have := hk_.1; have := hk_.2.1; have := Z3.out; have := Z7.out; have := Z23.out; have := Z39.out; have := Z46.out; have := Z54.out; have := Z57.out; have := Z66.out; have := Z76.out; have := Z79.out; have := Z81.out; have := Z89.out; have := Z92.out;  omega)) (fun hs' => (by have := hs'.1; have := hs'.2.1; have := hk_.1; have := hk_.2.1; have := Z3.out; have := Z7.out; have := Z23.out; have := Z39.out; have := Z46.out; have := Z54.out; have := Z57.out; have := Z66.out; have := Z76.out; have := Z79.out; have := Z81.out; have := Z89.out; have := Z92.out;  omega)))))
  replace BK74 := Aside0.mk (blk_kept BK74.out hk (fun hs => hs.elim (fun hq => (by have := hq.1; have := hq.2.1; have := Z3.out; have := Z7.out; have := Z23.out; have := Z39.out; have := Z46.out; have := Z54.out; have := Z57.out; have := Z66.out; have := Z76.out; have := Z79.out; have := Z81.out; have := Z89.out; have := Z92.out; omega)) (fun hs' => (by have := hs'.1; have := hs'.2.1; have := Z3.out; have := Z7.out; have := Z23.out; have := Z39.out; have := Z46.out; have := Z54.out; have := Z57.out; have := Z66.out; have := Z76.out; have := Z79.out; have := Z81.out; have := Z89.out; have := Z92.out; omega))))
  replace O50 := Aside0.mk h102
  replace O53 := Aside0.mk h103
  replace HB := Aside0.mk hb
  have Z104 := Aside0.mk hk.1
  clear hb hk h102 h103
  have hn105 := (Kd.S_reads' O50.out).1
  have hn105_ := Aside0.mk hn105
  clear hn105
  have hn106 := (Kd.R_reads' O53.out).1
  have hn106_ := Aside0.mk hn106
  clear hn106
  clear O50 O53 BK55
  have hz107 : w97.cell? ⟨w58.heap.size, 0, none⟩ = some (.slice A60 r25.length c61) := (blk_cell BK74.out 0).trans rfl
  have hz108 : w97.cell? ⟨w58.heap.size, 1, none⟩ = some (.slice A63 r26.length c64) := (blk_cell BK74.out 1).trans rfl
  have hz109 : w97.cell? ⟨w58.heap.size, 2, none⟩ = some (.int .i64 r27) := (blk_cell BK74.out 2).trans rfl
  have hz110 : w97.cell? ⟨w58.heap.size, 3, none⟩ = some (.string r28) := (blk_cell BK74.out 3).trans rfl
  have hz111 : w97.cell? ⟨w58.heap.size, 4, none⟩ = some (.string r29) := (blk_cell BK74.out 4).trans rfl
  have hz112 : w97.cell? ⟨w58.heap.size, 5, none⟩ = some (.int .i64 r30) := (blk_cell BK74.out 5).trans rfl
  have hl113 : w58.heap.size < w97.heap.size := blk_lt BK74.out
  have hz114 : w97.cell? ⟨w24.heap.size, 0, none⟩ = some (.slice A33 r25.length c34) := (blk_cell BK44.out 0).trans rfl
  have hz115 : w97.cell? ⟨w24.heap.size, 1, none⟩ = some (.slice A36 r26.length c37) := (blk_cell BK44.out 1).trans rfl
  have hz116 : w97.cell? ⟨w24.heap.size, 2, none⟩ = some (.int .i64 r27) := (blk_cell BK44.out 2).trans rfl
  have hz117 : w97.cell? ⟨w24.heap.size, 3, none⟩ = some (.string r28) := (blk_cell BK44.out 3).trans rfl
  have hz118 : w97.cell? ⟨w24.heap.size, 4, none⟩ = some (.string r29) := (blk_cell BK44.out 4).trans rfl
  have hz119 : w97.cell? ⟨w24.heap.size, 5, none⟩ = some (.int .i64 r30) := (blk_cell BK44.out 5).trans rfl
  have hl120 : w24.heap.size < w97.heap.size := blk_lt BK44.out
  go_wp2_with fail
  clear hz107 hz108 hz109 hz110 hz111 hz112 hl113 hz114 hz115 hz116 hz117 hz118 hz119 hl120
  have e122 := e78
  refine (laws_eqConsole.calls k A60 c61 r25 A63 c64 r26 r27 r28 r29 r30 A33 c34 r25 A36 c37 r26 r27 r28 r29 r30 true w97 (Kd.S_reads' O62.out).2.2 (Kd.S_reads' O62.out).2.1 (Kd.R_reads' O65.out).2.2 (Kd.R_reads' O65.out).2.1 (Kd.S_reads' O35.out).2.2 (Kd.S_reads' O35.out).2.1 (Kd.R_reads' O38.out).2.2 (Kd.R_reads' O38.out).2.1 e122.out).mono ?_
  rintro e w121 ⟨rfl, hb⟩
  replace BK1 := Aside0.mk (blk_below BK1.out hb)
  replace O35 := Aside0.mk (Kd.S_below O35.out hb)
  replace O38 := Aside0.mk (Kd.R_below O38.out hb)
  replace BK44 := Aside0.mk (blk_below BK44.out hb)
  replace O62 := Aside0.mk (Kd.S_below O62.out hb)
  replace O65 := Aside0.mk (Kd.R_below O65.out hb)
  replace BK74 := Aside0.mk (blk_below BK74.out hb)
  have Z123 := Aside0.mk (below_size hb)
  replace HB := Aside0.mk (below_step HB.out hb)
  clear hb 
  have hz124 : w121.cell? ⟨w58.heap.size, 0, none⟩ = some (.slice A60 r25.length c61) := (blk_cell BK74.out 0).trans rfl
  have hz125 : w121.cell? ⟨w58.heap.size, 1, none⟩ = some (.slice A63 r26.length c64) := (blk_cell BK74.out 1).trans rfl
  have hz126 : w121.cell? ⟨w58.heap.size, 2, none⟩ = some (.int .i64 r27) := (blk_cell BK74.out 2).trans rfl
  have hz127 : w121.cell? ⟨w58.heap.size, 3, none⟩ = some (.string r28) := (blk_cell BK74.out 3).trans rfl
  have hz128 : w121.cell? ⟨w58.heap.size, 4, none⟩ = some (.string r29) := (blk_cell BK74.out 4).trans rfl
  have hz129 : w121.cell? ⟨w58.heap.size, 5, none⟩ = some (.int .i64 r30) := (blk_cell BK74.out 5).trans rfl
  have hl130 : w58.heap.size < w121.heap.size := blk_lt BK74.out
  go_wp2_with fail
  clear hz124 hz125 hz126 hz127 hz128 hz129 hl130
  refine (laws_markConsole.calls k (Seg (w47.heap.size + 1) w58.heap.size w58 [62, 5]) _ r25 (Seg (w47.heap.size + 1) w58.heap.size w58 [32]) _ r26 r27 r28 r29 r30 1 m132 x133 x134 w w121 HB.out O62.out O65.out (fun k_ h1 h2 => Ty_ne h1.2.2 h2.2.2 (by decide)) e135.out).mono ?_
  rintro e w131 ⟨rfl, h136, h137, hb, hk⟩
  replace BK1 := Aside0.mk (blk_kept BK1.out hk (fun hs => hs.elim (fun hq => (by have := hq.1; have := hq.2.1; have := Z3.out; have := Z7.out; have := Z23.out; have := Z39.out; have := Z46.out; have := Z54.out; have := Z57.out; have := Z66.out; have := Z76.out; have := Z79.out; have := Z81.out; have := Z89.out; have := Z92.out; have := Z104.out; have := Z123.out; omega)) (fun hs' => (by have := hs'.1; have := hs'.2.1; have := Z3.out; have := Z7.out; have := Z23.out; have := Z39.out; have := Z46.out; have := Z54.out; have := Z57.out; have := Z66.out; have := Z76.out; have := Z79.out; have := Z81.out; have := Z89.out; have := Z92.out; have := Z104.out; have := Z123.out; omega))))
  replace O35 := Aside0.mk (Kd.S_step O35.out (fun k_ hk_ hlt => hk.2 k_ hlt (fun hs => hs.elim (fun hq => (by have := hq.1; have := hq.2.1; have := hk_.1; have := hk_.2.1; have := Z3.out; have := Z7.out; have := Z23.out; have := Z39.out; have := Z46.out; have := Z54.out; have := Z57.out; have := Z66.out; have := Z76.out; have := Z79.out; have := Z81.out; have := Z89.out; have := Z92.out; have := Z104.out; have := Z123.out;  omega)) (fun hs' => (by have := hs'.1; have := hs'.2.1; have := hk_.1; have := hk_.2.1; have := Z3.out; have := Z7.out; have := Z23.out; have := Z39.out; have := Z46.out; have := Z54.out; have := Z57.out; have := Z66.out; have := Z76.out; have := Z79.out; have := Z81.out; have := Z89.out; have := Z92.out; have := Z104.out; have := Z123.out;  omega)))))
  replace O38 := Aside0.mk (Kd.R_step O38.out (fun k_ hk_ hlt => hk.2 k_ hlt (fun hs => hs.elim (fun hq => (by have := hq.1; have := hq.2.1; have := hk_.1; have := hk_.2.1; have := Z3.out; have := Z7.out; have := Z23.out; have := Z39.out; have := Z46.out; have := Z54.out; have := Z57.out; have := Z66.out; have := Z76.out; have := Z79.out; have := Z81.out; have := Z89.out; have := Z92.out; have := Z104.out; have := Z123.out;  omega)) (fun hs' => (by have := hs'.1; have := hs'.2.1; have := hk_.1; have := hk_.2.1; have := Z3.out; have := Z7.out; have := Z23.out; have := Z39.out; have := Z46.out; have := Z54.out; have := Z57.out; have := Z66.out; have := Z76.out; have := Z79.out; have := Z81.out; have := Z89.out; have := Z92.out; have := Z104.out; have := Z123.out;  omega)))))
  replace BK44 := Aside0.mk (blk_kept BK44.out hk (fun hs => hs.elim (fun hq => (by have := hq.1; have := hq.2.1; have := Z3.out; have := Z7.out; have := Z23.out; have := Z39.out; have := Z46.out; have := Z54.out; have := Z57.out; have := Z66.out; have := Z76.out; have := Z79.out; have := Z81.out; have := Z89.out; have := Z92.out; have := Z104.out; have := Z123.out; omega)) (fun hs' => (by have := hs'.1; have := hs'.2.1; have := Z3.out; have := Z7.out; have := Z23.out; have := Z39.out; have := Z46.out; have := Z54.out; have := Z57.out; have := Z66.out; have := Z76.out; have := Z79.out; have := Z81.out; have := Z89.out; have := Z92.out; have := Z104.out; have := Z123.out; omega))))
  replace BK74 := Aside0.mk (blk_kept BK74.out hk (fun hs => hs.elim (fun hq => (by have := hq.1; have := hq.2.1; have := Z3.out; have := Z7.out; have := Z23.out; have := Z39.out; have := Z46.out; have := Z54.out; have := Z57.out; have := Z66.out; have := Z76.out; have := Z79.out; have := Z81.out; have := Z89.out; have := Z92.out; have := Z104.out; have := Z123.out; omega)) (fun hs' => (by have := hs'.1; have := hs'.2.1; have := Z3.out; have := Z7.out; have := Z23.out; have := Z39.out; have := Z46.out; have := Z54.out; have := Z57.out; have := Z66.out; have := Z76.out; have := Z79.out; have := Z81.out; have := Z89.out; have := Z92.out; have := Z104.out; have := Z123.out; omega))))
  replace O62 := Aside0.mk h136
  replace O65 := Aside0.mk h137
  replace HB := Aside0.mk hb
  have Z138 := Aside0.mk hk.1
  clear hb hk h136 h137
  have hn139 := (Kd.S_reads' O62.out).1
  have hn139_ := Aside0.mk hn139
  clear hn139
  have hn140 := (Kd.R_reads' O65.out).1
  have hn140_ := Aside0.mk hn140
  clear hn140
  have hz141 : w131.cell? ⟨w58.heap.size, 0, none⟩ = some (.slice A60 r25.length c61) := (blk_cell BK74.out 0).trans rfl
  have hz142 : w131.cell? ⟨w58.heap.size, 1, none⟩ = some (.slice A63 r26.length c64) := (blk_cell BK74.out 1).trans rfl
  have hz143 : w131.cell? ⟨w58.heap.size, 2, none⟩ = some (.int .i64 r27) := (blk_cell BK74.out 2).trans rfl
  have hz144 : w131.cell? ⟨w58.heap.size, 3, none⟩ = some (.string r28) := (blk_cell BK74.out 3).trans rfl
  have hz145 : w131.cell? ⟨w58.heap.size, 4, none⟩ = some (.string r29) := (blk_cell BK74.out 4).trans rfl
  have hz146 : w131.cell? ⟨w58.heap.size, 5, none⟩ = some (.int .i64 r30) := (blk_cell BK74.out 5).trans rfl
  have hl147 : w58.heap.size < w131.heap.size := blk_lt BK74.out
  go_wp2_with fail
  clear hz141 hz142 hz143 hz144 hz145 hz146 hl147
  rw [hn139_.out]
  rw [hn140_.out]
  refine (laws_heldConsole.calls k A60 c61 x133 A63 c64 x134 r27 r28 r29 r30 1 m132 w131 (Kd.S_reads' O62.out).2.2 (Nat.le_trans (Nat.le_of_eq hn139_.out.symm) (Kd.S_reads' O62.out).2.1) (Kd.R_reads' O65.out).2.2 (Nat.le_trans (Nat.le_of_eq hn140_.out.symm) (Kd.R_reads' O65.out).2.1) e149.out).mono ?_
  rintro e w148 ⟨rfl, hb⟩
  replace BK1 := Aside0.mk (blk_below BK1.out hb)
  replace O35 := Aside0.mk (Kd.S_below O35.out hb)
  replace O38 := Aside0.mk (Kd.R_below O38.out hb)
  replace BK44 := Aside0.mk (blk_below BK44.out hb)
  replace O62 := Aside0.mk (Kd.S_below O62.out hb)
  replace O65 := Aside0.mk (Kd.R_below O65.out hb)
  replace BK74 := Aside0.mk (blk_below BK74.out hb)
  have Z150 := Aside0.mk (below_size hb)
  replace HB := Aside0.mk (below_step HB.out hb)
  clear hb 
  have hz151 : w148.cell? ⟨w.heap.size, 0, none⟩ = some (.slice A0_0 l0_0.length c0_0) := (blk_cell BK1.out 0).trans rfl
  have hz152 : w148.cell? ⟨w.heap.size, 1, none⟩ = some (.slice A0_1 l0_1.length c0_1) := (blk_cell BK1.out 1).trans rfl
  have hz153 : w148.cell? ⟨w.heap.size, 2, none⟩ = some (.int .i64 a0_2) := (blk_cell BK1.out 2).trans rfl
  have hl154 : w.heap.size < w148.heap.size := blk_lt BK1.out
  go_wp2_with fail
  clear hz151 hz152 hz153 hl154
  refine (laws_toDesk.calls k A0_0 c0_0 l0_0 A0_1 c0_1 l0_1 a0_2 r13 r14 r15 w148 (Kd.C_below HR0_0.out HB.out) HC0_0.out (Kd.C_below HR0_1.out HB.out) HC0_1.out e16.out).mono ?_
  rintro e w155 ⟨v0_w155, v1_w155, rfl, h0_w155, h1_w155, hb⟩
  replace BK1 := Aside0.mk (blk_below BK1.out hb)
  replace O35 := Aside0.mk (Kd.S_below O35.out hb)
  replace O38 := Aside0.mk (Kd.R_below O38.out hb)
  replace BK44 := Aside0.mk (blk_below BK44.out hb)
  replace O62 := Aside0.mk (Kd.S_below O62.out hb)
  replace O65 := Aside0.mk (Kd.R_below O65.out hb)
  replace BK74 := Aside0.mk (blk_below BK74.out hb)
  obtain ⟨A156, c157, rfl⟩ := Kd.S_slice h0_w155
  have O158 := Aside0.mk (show Kd.S (Kd.slice 5 (Kd.int .u8)) 62 w155 w.heap.size (Seg w148.heap.size w155.heap.size w155 [62, 5]) (.slice A156 r13.length c157) r13 from Kd.S_lower (Kd.S_mono (Kd.S_bound h0_w155) (fun k_ hk => ⟨hk.2.1, hk.2.2.1, hk.2.2.2⟩)) (below_size HB.out))
  obtain ⟨A159, c160, rfl⟩ := Kd.R_slice h1_w155
  have O161 := Aside0.mk (show Kd.R k32 32 w155 w.heap.size (Seg w148.heap.size w155.heap.size w155 [32]) (.slice A159 r14.length c160) r14 from Kd.R_lower (Kd.R_mono (Kd.R_bound h1_w155) (fun k_ hk => ⟨hk.2.1, hk.2.2.1, hk.2.2.2⟩)) (below_size HB.out))
  have Z162 := Aside0.mk (below_size hb)
  replace HB := Aside0.mk (below_step HB.out hb)
  clear hb h0_w155 h1_w155
  clear BK1
  go_wp2_with fail
  refine (impl_NewConsole.calls k A156 c157 r13 A159 c160 r14 r15 r25 r26 r27 r28 r29 r30 r31 w155 (Kd.S_reads' O158.out).2.2 (Kd.S_reads' O158.out).2.1 (Kd.R_reads' O161.out).2.2 (Kd.R_reads' O161.out).2.1 e59.out).mono ?_
  rintro e w163 ⟨v0_w163, v1_w163, rfl, h0_w163, h1_w163, hb⟩
  replace O35 := Aside0.mk (Kd.S_below O35.out hb)
  replace O38 := Aside0.mk (Kd.R_below O38.out hb)
  replace BK44 := Aside0.mk (blk_below BK44.out hb)
  replace O62 := Aside0.mk (Kd.S_below O62.out hb)
  replace O65 := Aside0.mk (Kd.R_below O65.out hb)
  replace BK74 := Aside0.mk (blk_below BK74.out hb)
  replace O158 := Aside0.mk (Kd.S_below O158.out hb)
  replace O161 := Aside0.mk (Kd.R_below O161.out hb)
  obtain ⟨A164, c165, rfl⟩ := Kd.S_slice h0_w163
  have O166 := Aside0.mk (show Kd.S (Kd.slice 5 (Kd.int .u8)) 62 w163 w.heap.size (Seg w155.heap.size w163.heap.size w163 [62, 5]) (.slice A164 r25.length c165) r25 from Kd.S_lower (Kd.S_mono (Kd.S_bound h0_w163) (fun k_ hk => ⟨hk.2.1, hk.2.2.1, hk.2.2.2⟩)) (below_size HB.out))
  obtain ⟨A167, c168, rfl⟩ := Kd.R_slice h1_w163
  have O169 := Aside0.mk (show Kd.R k32 32 w163 w.heap.size (Seg w155.heap.size w163.heap.size w163 [32]) (.slice A167 r26.length c168) r26 from Kd.R_lower (Kd.R_mono (Kd.R_bound h1_w163) (fun k_ hk => ⟨hk.2.1, hk.2.2.1, hk.2.2.2⟩)) (below_size HB.out))
  have Z170 := Aside0.mk (below_size hb)
  replace HB := Aside0.mk (below_step HB.out hb)
  clear hb h0_w163 h1_w163
  clear O158 O161
  have hz171 : w163.cell? ⟨w24.heap.size, 0, none⟩ = some (.slice A33 r25.length c34) := (blk_cell BK44.out 0).trans rfl
  have hz172 : w163.cell? ⟨w24.heap.size, 1, none⟩ = some (.slice A36 r26.length c37) := (blk_cell BK44.out 1).trans rfl
  have hz173 : w163.cell? ⟨w24.heap.size, 2, none⟩ = some (.int .i64 r27) := (blk_cell BK44.out 2).trans rfl
  have hz174 : w163.cell? ⟨w24.heap.size, 3, none⟩ = some (.string r28) := (blk_cell BK44.out 3).trans rfl
  have hz175 : w163.cell? ⟨w24.heap.size, 4, none⟩ = some (.string r29) := (blk_cell BK44.out 4).trans rfl
  have hz176 : w163.cell? ⟨w24.heap.size, 5, none⟩ = some (.int .i64 r30) := (blk_cell BK44.out 5).trans rfl
  have hl177 : w24.heap.size < w163.heap.size := blk_lt BK44.out
  go_wp2_with fail
  clear hz171 hz172 hz173 hz174 hz175 hz176 hl177
  have HA179 := Below.alloc (Below.refl w163.heap.size w163) (Nat.le_refl _) (.cells #[.slice A164 r25.length c165, .slice A167 r26.length c168, .int .i64 r27, .string r28, .string r29, .int .i64 r30] 51)
  replace O35 := Aside0.mk (Kd.S_below O35.out HA179)
  replace O38 := Aside0.mk (Kd.R_below O38.out HA179)
  replace BK44 := Aside0.mk (blk_below BK44.out HA179)
  replace O62 := Aside0.mk (Kd.S_below O62.out HA179)
  replace O65 := Aside0.mk (Kd.R_below O65.out HA179)
  replace BK74 := Aside0.mk (blk_below BK74.out HA179)
  replace O166 := Aside0.mk (Kd.S_below O166.out HA179)
  replace O169 := Aside0.mk (Kd.R_below O169.out HA179)
  have BK178 := Aside0.mk (heap_alloc_new w163 (.cells #[.slice A164 r25.length c165, .slice A167 r26.length c168, .int .i64 r27, .string r28, .string r29, .int .i64 r30] 51))
  replace HB := Aside0.mk (below_step HB.out HA179)
  have Z180 := Aside0.mk (show w163.heap.size < (w163.alloc (.cells #[.slice A164 r25.length c165, .slice A167 r26.length c168, .int .i64 r27, .string r28, .string r29, .int .i64 r30] 51)).heap.size by simp)
  clear HA179
  have e182 := e78
  refine (laws_eqConsole.calls k A164 c165 r25 A167 c168 r26 r27 r28 r29 r30 A33 c34 r25 A36 c37 r26 r27 r28 r29 r30 true (w163.alloc (.cells #[.slice A164 r25.length c165, .slice A167 r26.length c168, .int .i64 r27, .string r28, .string r29, .int .i64 r30] 51)) (Kd.S_reads' O166.out).2.2 (Kd.S_reads' O166.out).2.1 (Kd.R_reads' O169.out).2.2 (Kd.R_reads' O169.out).2.1 (Kd.S_reads' O35.out).2.2 (Kd.S_reads' O35.out).2.1 (Kd.R_reads' O38.out).2.2 (Kd.R_reads' O38.out).2.1 e182.out).mono ?_
  rintro e w181 ⟨rfl, hb⟩
  replace O35 := Aside0.mk (Kd.S_below O35.out hb)
  replace O38 := Aside0.mk (Kd.R_below O38.out hb)
  replace BK44 := Aside0.mk (blk_below BK44.out hb)
  replace O62 := Aside0.mk (Kd.S_below O62.out hb)
  replace O65 := Aside0.mk (Kd.R_below O65.out hb)
  replace BK74 := Aside0.mk (blk_below BK74.out hb)
  replace O166 := Aside0.mk (Kd.S_below O166.out hb)
  replace O169 := Aside0.mk (Kd.R_below O169.out hb)
  replace BK178 := Aside0.mk (blk_below BK178.out hb)
  have Z183 := Aside0.mk (below_size hb)
  replace HB := Aside0.mk (below_step HB.out hb)
  clear hb 
  clear O35 O38 BK44 O166 O169 BK178
  have hz184 : w181.cell? ⟨w58.heap.size, 0, none⟩ = some (.slice A60 r25.length c61) := (blk_cell BK74.out 0).trans rfl
  have hz185 : w181.cell? ⟨w58.heap.size, 1, none⟩ = some (.slice A63 r26.length c64) := (blk_cell BK74.out 1).trans rfl
  have hz186 : w181.cell? ⟨w58.heap.size, 2, none⟩ = some (.int .i64 r27) := (blk_cell BK74.out 2).trans rfl
  have hz187 : w181.cell? ⟨w58.heap.size, 3, none⟩ = some (.string r28) := (blk_cell BK74.out 3).trans rfl
  have hz188 : w181.cell? ⟨w58.heap.size, 4, none⟩ = some (.string r29) := (blk_cell BK74.out 4).trans rfl
  have hz189 : w181.cell? ⟨w58.heap.size, 5, none⟩ = some (.int .i64 r30) := (blk_cell BK74.out 5).trans rfl
  have hl190 : w58.heap.size < w181.heap.size := blk_lt BK74.out
  go_wp2_with fail
  clear hz184 hz185 hz186 hz187 hz188 hz189 hl190
  rw [hn139_.out]
  rw [hn140_.out]
  refine (laws_heldConsole.calls k A60 c61 x133 A63 c64 x134 r27 r28 r29 r30 1 m132 w181 (Kd.S_reads' O62.out).2.2 (Nat.le_trans (Nat.le_of_eq hn139_.out.symm) (Kd.S_reads' O62.out).2.1) (Kd.R_reads' O65.out).2.2 (Nat.le_trans (Nat.le_of_eq hn140_.out.symm) (Kd.R_reads' O65.out).2.1) e149.out).mono ?_
  rintro e w191 ⟨rfl, hb⟩
  replace O62 := Aside0.mk (Kd.S_below O62.out hb)
  replace O65 := Aside0.mk (Kd.R_below O65.out hb)
  replace BK74 := Aside0.mk (blk_below BK74.out hb)
  have Z193 := Aside0.mk (below_size hb)
  replace HB := Aside0.mk (below_step HB.out hb)
  clear hb 
  clear O62 O65 BK74
  go_wp2_with fail
  go_ret
  exact ⟨rfl, HB.out⟩

set_option maxHeartbeats 8000000 in
set_option maxRecDepth 100000 in
theorem FnExactNewConsole.walk_big0 (k : Nat) (A0_0 : Option Addr) (c0_0 : Nat) (l0_0 : List (List Int)) (A0_1 : Option Addr) (c0_1 : Nat) (l0_1 : List S26) (a0_2 : Int) (r5 : Int) (w : World) (HR0_0 : Kd.C (Kd.slice 5 (Kd.int .u8)) w A0_0 l0_0.length l0_0) (HC0_0 : l0_0.length ≤ c0_0) (HR0_1 : Kd.C k26 w A0_1 l0_1.length l0_1) (HC0_1 : l0_1.length ≤ c0_1) (e6 : laws_szDesk.f k l0_0 l0_1 a0_2 1048576 = some r5) (n_r5 : r5 < 0) :
    Calls Try.prog 4 #[.agg #[.slice A0_0 l0_0.length c0_0, .slice A0_1 l0_1.length c0_1, .int .i64 a0_2]] w fun e w' => e = .returned (.bool true) ∧ Below w.heap.size w w' := by
  have hu43 := Try.underlying43
  have hu47 := Try.underlying47
  have hu51 := Try.underlying51
  replace HR0_0 := Aside0.mk HR0_0
  replace HC0_0 := Aside0.mk HC0_0
  replace HR0_1 := Aside0.mk HR0_1
  replace HC0_1 := Aside0.mk HC0_1
  replace e6 := Aside0.mk e6
  replace n_r5 := decide_eq_true n_r5
  have HB := Aside0.mk (Below.refl w.heap.size w)
  go_enter Try.func4, Try.ntmps4
  go_wp2_with fail
  have HA2 := Below.alloc (Below.refl w.heap.size w) (Nat.le_refl _) (.cells #[.slice A0_0 l0_0.length c0_0, .slice A0_1 l0_1.length c0_1, .int .i64 a0_2] 43)
  have BK1 := Aside0.mk (heap_alloc_new w (.cells #[.slice A0_0 l0_0.length c0_0, .slice A0_1 l0_1.length c0_1, .int .i64 a0_2] 43))
  replace HB := Aside0.mk (below_step HB.out HA2)
  have Z3 := Aside0.mk (show w.heap.size < (w.alloc (.cells #[.slice A0_0 l0_0.length c0_0, .slice A0_1 l0_1.length c0_1, .int .i64 a0_2] 43)).heap.size by simp)
  clear HA2
  refine (laws_szDesk.calls k A0_0 c0_0 l0_0 A0_1 c0_1 l0_1 a0_2 1048576 r5 (w.alloc (.cells #[.slice A0_0 l0_0.length c0_0, .slice A0_1 l0_1.length c0_1, .int .i64 a0_2] 43)) (Kd.C_below HR0_0.out HB.out) HC0_0.out (Kd.C_below HR0_1.out HB.out) HC0_1.out e6.out).mono ?_
  rintro e w4 ⟨rfl, hb⟩
  replace BK1 := Aside0.mk (blk_below BK1.out hb)
  have Z7 := Aside0.mk (below_size hb)
  replace HB := Aside0.mk (below_step HB.out hb)
  clear hb 
  go_wp2
  go_ret
  exact ⟨rfl, HB.out⟩

def FnExactNewConsole.Pure : Prop := ∀ (l0_0 : List (List Int)) (l0_1 : List S26) (a0_2 : Int), (l0_0.length ≤ maxLen ∧ ∀ z ∈ l0_0, (z.length ≤ maxLen ∧ ∀ z2 ∈ z, (Lit.int .u8 z2).wf = true)) → (l0_1.length ≤ maxLen ∧ ∀ z ∈ l0_1, wf26 z) → (Lit.int .i64 a0_2).wf = true → (∃ (k : Nat) (r5 : Int) (r13 : List (List Int)) (r14 : List S32) (r15 : Int) (r25 : List (List Int)) (r26 : List S32) (r27 : Int) (r28 : ByteArray) (r29 : ByteArray) (r30 : Int) (r31 : Bool) (m98 : Int) (x99 : List (List Int)) (x100 : List S32) (m132 : Int) (x133 : List (List Int)) (x134 : List S32), laws_szDesk.f k l0_0 l0_1 a0_2 1048576 = some r5 ∧ ¬ r5 < 0 ∧ laws_toDesk.f k l0_0 l0_1 a0_2 = some (r13, r14, r15) ∧ spec_NewConsole.f k r13 r14 r15 = some (r25, r26, r27, r28, r29, r30, r31) ∧ impl_NewConsole.f k r13 r14 r15 = some (r25, r26, r27, r28, r29, r30, r31) ∧ laws_eqConsole.f k r25 r26 r27 r28 r29 r30 r25 r26 r27 r28 r29 r30 = some true ∧ laws_eqDesk.f k r13 r14 r15 r13 r14 r15 = some true ∧ laws_markDesk.f k r13 r14 1 = some (m98, x99, x100) ∧ ¬ m98 < 0 ∧ laws_markConsole.f k r25 r26 1 = some (m132, x133, x134) ∧ laws_heldConsole.f k x133 x134 r27 r28 r29 r30 1 = some m132 ∧ ¬ m132 < 0) ∨
  (∃ (k : Nat) (r5 : Int), laws_szDesk.f k l0_0 l0_1 a0_2 1048576 = some r5 ∧ r5 < 0)

theorem FnExactNewConsole.call (P_ : FnExactNewConsole.Pure) (A0_0 : Option Addr) (c0_0 : Nat) (l0_0 : List (List Int)) (A0_1 : Option Addr) (c0_1 : Nat) (l0_1 : List S26) (a0_2 : Int) (w : World) (HR0_0 : Kd.C (Kd.slice 5 (Kd.int .u8)) w A0_0 l0_0.length l0_0) (HC0_0 : l0_0.length ≤ c0_0) (HR0_1 : Kd.C k26 w A0_1 l0_1.length l0_1) (HC0_1 : l0_1.length ≤ c0_1) (W_0 : (l0_0.length ≤ maxLen ∧ ∀ z ∈ l0_0, (z.length ≤ maxLen ∧ ∀ z2 ∈ z, (Lit.int .u8 z2).wf = true))) (W_1 : (l0_1.length ≤ maxLen ∧ ∀ z ∈ l0_1, wf26 z)) (W_2 : (Lit.int .i64 a0_2).wf = true) :
    Calls Try.prog 4 #[.agg #[.slice A0_0 l0_0.length c0_0, .slice A0_1 l0_1.length c0_1, .int .i64 a0_2]] w fun e w' => e = .returned (.bool true) ∧ Below w.heap.size w w' := by
  rcases P_ l0_0 l0_1 a0_2 W_0 W_1 W_2 with h_ | h_
  · obtain ⟨k, r5, r13, r14, r15, r25, r26, r27, r28, r29, r30, r31, m98, x99, x100, m132, x133, x134, e6, n_r5, e16, e32, e59, e78, e91, e101, n_m98, e135, e149, n_m132⟩ := h_
    exact FnExactNewConsole.walk k A0_0 c0_0 l0_0 A0_1 c0_1 l0_1 a0_2 r5 r13 r14 r15 r25 r26 r27 r28 r29 r30 r31 m98 x99 x100 m132 x133 x134 w HR0_0 HC0_0 HR0_1 HC0_1 e6 n_r5 e16 e32 e59 e78 e91 e101 n_m98 e135 e149 n_m132
  · obtain ⟨k, r5, e6, n_r5⟩ := h_
    exact FnExactNewConsole.walk_big0 k A0_0 c0_0 l0_0 A0_1 c0_1 l0_1 a0_2 r5 w HR0_0 HC0_0 HR0_1 HC0_1 e6 n_r5
end Go.Proofs.Ythlppjdlljofdaa.P
namespace Go.Proofs.Ythlppjdlljofdaa.P
open Go.RowKit Go.Proofs.YthlppjdlljofdaaW.PrintWords Go.Proofs.YthlppjdlljofdaaW.PrintLast Go.Proofs.YthlppjdlljofdaaW.PrintMore
set_option linter.unusedVariables false

/-- From some number of rounds on, F tells r. -/
def Ter {α : Type} (F : Nat → Option α) (r : α) : Prop := ∃ K, ∀ k, K ≤ k → F k = some r

theorem Ter.const {α : Type} {o : Option α} {r : α} (h : o = some r) : Ter (fun _ => o) r := ⟨0, fun _ _ => h⟩

theorem Ter.ret {α : Type} (r : α) : Ter (fun _ => some r) r := ⟨0, fun _ _ => rfl⟩

theorem Ter.succ {α : Type} {F : Nat → Option α} {r : α} (h : Ter (fun k => F (k + 1)) r) : Ter F r := by
  obtain ⟨K, h⟩ := h
  refine ⟨K + 1, fun k hk => ?_⟩
  obtain ⟨j, rfl⟩ : ∃ j, k = j + 1 := ⟨k - 1, by omega⟩
  exact h j (by omega)

theorem Ter.bind {α β : Type} {F : Nat → Option α} {G : Nat → α → Option β} {a : α} {b : β} (h1 : Ter F a) (h2 : Ter (fun k => G k a) b) : Ter (fun k => (F k).bind (G k)) b := by
  obtain ⟨K1, h1⟩ := h1
  obtain ⟨K2, h2⟩ := h2
  refine ⟨K1 + K2, fun k hk => ?_⟩
  show (F k).bind (G k) = _
  rw [h1 k (by omega)]
  exact h2 k (by omega)

theorem Ter.ifp {α : Type} {c : Prop} [Decidable c] {F G : Nat → Option α} {r : α} (h : c) (h1 : Ter F r) : Ter (fun k => if c then F k else G k) r := by
  simp only [if_pos h]
  exact h1

theorem Ter.ifn {α : Type} {c : Prop} [Decidable c] {F G : Nat → Option α} {r : α} (h : ¬ c) (h1 : Ter G r) : Ter (fun k => if c then F k else G k) r := by
  simp only [if_neg h]
  exact h1

theorem Ter.congr {α : Type} {F G : Nat → Option α} {r : α} (h : ∀ k, F k = G k) (h1 : Ter G r) : Ter F r := by
  obtain ⟨K, h1⟩ := h1
  exact ⟨K, fun k hk => (h k).trans (h1 k hk)⟩

theorem Ter.eq {α : Type} {F : Nat → Option α} {r s : α} (h : Ter F r) (e : r = s) : Ter F s := e ▸ h

theorem Ter.at {α : Type} {F : Nat → Option α} {r : α} (h : Ter F r) : ∃ K, ∀ k, K ≤ k → F k = some r := h

/-- Down from the last index. -/
theorem down_ {Q : Nat → Prop} (n : Nat) (fin : Q n) (step : ∀ i, i < n → Q (i + 1) → Q i) : ∀ i, i ≤ n → Q i := by
  have h : ∀ j i, i + j = n → Q i := by
    intro j
    induction j with
    | zero => intro i h; have : i = n := by omega
              exact this ▸ fin
    | succ j ih => intro i h; exact step i (by omega) (ih (i + 1) (by omega))
  intro i hi
  exact h (n - i) i (by omega)

theorem w64 {n : Int} (h0 : -9223372036854775808 ≤ n) (h1 : n ≤ 9223372036854775807) : wrap64 n = n := by unfold wrap64; omega

theorem w64s {i n : Nat} (h : i < n) (hn : n ≤ 9223372036854775807) : wrap64 ((i : Int) + 1) = ((i + 1 : Nat) : Int) := by
  rw [w64 (by omega) (by omega)]
  omega

theorem maxLen_ : maxLen = 9223372036854775807 := rfl

theorem getD_at {α : Type} {xs : List α} {d : α} {i : Nat} (h : i < xs.length) : xs.getD ((i : Int)).toNat d = xs[i] := by
  rw [Int.toNat_natCast, List.getD_eq_getElem?_getD, List.getElem?_eq_getElem h]
  rfl

theorem rd_at {xs : List Int} {i : Nat} (h : i < xs.length) : rd xs (i : Int) = xs[i] := getD_at h

theorem fill_set {α : Type} {xs : List α} {z : α} {i : Nat} (h : i < xs.length) : (xs.take i ++ List.replicate (xs.length - i) z).set ((i : Int)).toNat xs[i] = xs.take (i + 1) ++ List.replicate (xs.length - (i + 1)) z := by
  rw [Int.toNat_natCast]
  apply List.ext_getElem?
  intro j
  by_cases hj : j = i
  · subst hj
    rw [List.getElem?_set_self (by simp; omega), List.getElem?_append_left (by simp; omega), List.getElem?_take_of_lt (by omega), List.getElem?_eq_getElem h]
  · rw [List.getElem?_set_ne (by omega)]
    by_cases h1 : j < i
    · rw [List.getElem?_append_left (by simp; omega), List.getElem?_append_left (by simp; omega), List.getElem?_take_of_lt h1, List.getElem?_take_of_lt (by omega)]
    · rw [List.getElem?_append_right (by simp; omega), List.getElem?_append_right (by simp; omega)]
      simp only [List.length_take, List.getElem?_replicate]
      rw [show min i xs.length = i by omega, show min (i + 1) xs.length = i + 1 by omega]
      by_cases h2 : j < xs.length
      · rw [if_pos (by omega), if_pos (by omega)]
      · rw [if_neg (by omega), if_neg (by omega)]

theorem fill_len {α : Type} {xs : List α} {z : α} {i : Nat} (h : i ≤ xs.length) : (xs.take i ++ List.replicate (xs.length - i) z).length = xs.length := by
  simp
  omega

theorem fill_all {α : Type} {xs : List α} {z : α} : xs.take xs.length ++ List.replicate (xs.length - xs.length) z = xs := by simp

theorem take_one {α : Type} {xs : List α} {i : Nat} (h : i < xs.length) : xs.take i ++ [xs[i]] = xs.take (i + 1) := by
  rw [List.take_add_one, List.getElem?_eq_getElem h]
  rfl
end Go.Proofs.Ythlppjdlljofdaa.P
namespace Go.Proofs.Ythlppjdlljofdaa.P
open Go.RowKit Go.Proofs.YthlppjdlljofdaaW.PrintWords Go.Proofs.YthlppjdlljofdaaW.PrintLast Go.Proofs.YthlppjdlljofdaaW.PrintMore
set_option linter.unusedVariables false

def Small {α : Type} (l : List α) : Prop := l.length ≤ 1048576

theorem Small.le {α : Type} {l : List α} (h : Small l) : l.length ≤ 1048576 := h

theorem szByteS_is {l : List Int} {a : Int} (h0 : 0 ≤ a) (h1 : a ≤ 1048576) (hl : l.length ≤ maxLen) : ∃ r, laws_szByteS.f l a = some r ∧ (r < 0 ∨ (0 ≤ r ∧ r ≤ a ∧ Small l)) := by
  rw [maxLen_] at hl
  unfold laws_szByteS.f Small
  rw [w64 (by omega) (by omega)]
  by_cases h : a - (l.length : Int) < 0
  · rw [if_pos h]; exact ⟨_, rfl, .inl (by omega)⟩
  · rw [if_neg h]; exact ⟨_, rfl, .inr (by omega)⟩

theorem szByteSS_is {l : List (List Int)} {a : Int} (h0 : 0 ≤ a) (h1 : a ≤ 1048576) (hl : l.length ≤ maxLen ∧ ∀ z ∈ l, z.length ≤ maxLen) : ∃ r, Ter (fun k => laws_szByteSS.f k l a) r ∧ (r < 0 ∨ (0 ≤ r ∧ r ≤ a ∧ Small l ∧ ∀ z ∈ l, Small z)) := by
  have hl1 := hl.1
  rw [maxLen_] at hl1
  unfold laws_szByteSS.f
  rw [w64 (by omega) (by omega)]
  by_cases h : a - (l.length : Int) < 0
  · simp only [if_pos h]; exact ⟨_, Ter.ret _, .inl (by omega)⟩
  · simp only [if_neg h]
    have hs : Small l := by unfold Small; omega
    have key := down_ (Q := fun i => ∀ b, 0 ≤ b → b ≤ a → ∃ r, Ter (fun k => laws_szByteSS.l0 k l b (i : Int)) r ∧ (r < 0 ∨ (0 ≤ r ∧ r ≤ b ∧ ∀ j, i ≤ j → ∀ hj : j < l.length, Small l[j]))) l.length
      (fun b hb0 hb1 => ⟨b, Ter.succ (by simp only [laws_szByteSS.l0]; exact Ter.ifn (by omega) (Ter.ret _)), .inr ⟨hb0, Int.le_refl _, fun j h1 h2 => by omega⟩⟩)
      (fun i hi ih b hb0 hb1 => by
        obtain ⟨r, hr, hr2⟩ := szByteS_is (l := l[i]) hb0 (by omega) (hl.2 _ (List.getElem_mem hi))
        rcases hr2 with hr2 | ⟨hr2, hr3, hr4⟩
        · refine ⟨-1, Ter.succ ?_, .inl (by omega)⟩
          simp only [laws_szByteSS.l0]
          refine Ter.ifp (by omega) (Ter.ifp (by omega) ?_)
          rw [show rd_L1 l (i : Int) = l[i] from getD_at hi, hr]
          exact Ter.ifp (c := r < 0) hr2 (Ter.ret _)
        · obtain ⟨q, hq, hq2⟩ := ih r hr2 (by omega)
          refine ⟨q, Ter.succ ?_, ?_⟩
          · simp only [laws_szByteSS.l0]
            refine Ter.ifp (by omega) (Ter.ifp (by omega) ?_)
            rw [show rd_L1 l (i : Int) = l[i] from getD_at hi, hr]
            refine Ter.ifn (c := r < 0) (by omega) ?_
            rw [w64s hi (by omega)]
            exact hq
          · rcases hq2 with h | ⟨h1, h2, h3⟩
            · exact .inl h
            · refine .inr ⟨h1, by omega, fun j hj hj2 => ?_⟩
              by_cases hij : j = i
              · subst hij; exact hr4
              · exact h3 j (by omega) hj2) 0 (by omega) (a - (l.length : Int)) (by omega) (by omega)
    obtain ⟨r, hr, hr2⟩ := key
    refine ⟨r, hr, ?_⟩
    rcases hr2 with h | ⟨h1, h2, h3⟩
    · exact .inl h
    · refine .inr ⟨h1, by omega, hs, fun z hz => ?_⟩
      obtain ⟨j, hj, rfl⟩ := List.getElem_of_mem hz
      exact h3 j (by omega) hj

theorem szMemory_is {l : List (List Int)} {a : Int} (h0 : 0 ≤ a) (h1 : a ≤ 1048576) (hl : l.length ≤ maxLen ∧ ∀ z ∈ l, z.length ≤ maxLen) : ∃ r, Ter (fun k => laws_szMemory.f k l a) r ∧ (r < 0 ∨ (0 ≤ r ∧ r ≤ a ∧ Small l ∧ ∀ z ∈ l, Small z)) := by
  obtain ⟨r, hr, h⟩ := szByteSS_is h0 h1 hl
  unfold laws_szMemory.f
  rcases h with h | ⟨h2, h3, h4⟩
  · exact ⟨-1, hr.bind (Ter.ifp h (Ter.ret _)), .inl (by omega)⟩
  · exact ⟨r, hr.bind (Ter.ifn (by omega) (Ter.ret _)), .inr ⟨h2, h3, h4⟩⟩

theorem toByteS_is {l : List Int} (h : Small l) : Ter (fun k => laws_toByteS.f k l) l := by
  have hl := h.le
  unfold laws_toByteS.f
  refine Ter.ifp (by omega) (Ter.ifp (by omega) ?_)
  have key := down_ (Q := fun i => Ter (fun k => laws_toByteS.l0 k l (l.take i ++ List.replicate (l.length - i) 0) (i : Int)) l) l.length
    (Ter.succ (by simp only [laws_toByteS.l0]; exact Ter.ifn (by omega) ((Ter.ret _).eq fill_all)))
    (fun i hi ih => by
      refine Ter.succ ?_
      simp only [laws_toByteS.l0]
      refine Ter.ifp (by omega) (Ter.ifp (by omega) (Ter.ifp (by rw [fill_len (by omega)]; omega) ?_))
      rw [rd_at hi, w64s hi (by omega), fill_set hi]
      exact ih) 0 (by omega)
  simpa using key

theorem toByteSS_is {l : List (List Int)} (h : Small l) (hz : ∀ z ∈ l, Small z) : Ter (fun k => laws_toByteSS.f k l) l := by
  have hl := h.le
  unfold laws_toByteSS.f
  refine Ter.ifp (by omega) (Ter.ifp (by omega) ?_)
  have key := down_ (Q := fun i => Ter (fun k => laws_toByteSS.l0 k l (l.take i ++ List.replicate (l.length - i) []) (i : Int)) l) l.length
    (Ter.succ (by simp only [laws_toByteSS.l0]; exact Ter.ifn (by omega) ((Ter.ret _).eq fill_all)))
    (fun i hi ih => by
      refine Ter.succ ?_
      simp only [laws_toByteSS.l0]
      refine Ter.ifp (by omega) (Ter.ifp (by omega) ?_)
      rw [show rd_L1 l (i : Int) = l[i] from getD_at hi]
      refine (toByteS_is (hz _ (List.getElem_mem hi))).bind (Ter.ifp (by rw [fill_len (by omega)]; omega) ?_)
      rw [w64s hi (by omega), fill_set hi]
      exact ih) 0 (by omega)
  simpa using key

theorem toMemory_is {l : List (List Int)} (h : Small l) (hz : ∀ z ∈ l, Small z) : Ter (fun k => laws_toMemory.f k l) l := (toByteSS_is h hz).bind (Ter.ret _)

theorem eqByteS_is {l : List Int} (h : l.length ≤ maxLen) : Ter (fun k => laws_eqByteS.f k l l) true := by
  rw [maxLen_] at h
  unfold laws_eqByteS.f
  refine Ter.ifp rfl ?_
  exact down_ (Q := fun i => Ter (fun k => laws_eqByteS.l0 k l l (i : Int)) true) l.length
    (Ter.succ (by simp only [laws_eqByteS.l0]; exact Ter.ifn (by omega) (Ter.ret _)))
    (fun i hi ih => by
      refine Ter.succ ?_
      simp only [laws_eqByteS.l0, if_true]
      refine Ter.ifp (by omega) (Ter.ifp (by omega) (Ter.ifp (by omega) ?_))
      rw [w64s hi (by omega)]
      exact ih) 0 (by omega)

theorem eqByteSS_is {l : List (List Int)} (h : l.length ≤ maxLen ∧ ∀ z ∈ l, z.length ≤ maxLen) : Ter (fun k => laws_eqByteSS.f k l l) true := by
  have h1 := h.1
  rw [maxLen_] at h1
  unfold laws_eqByteSS.f
  refine Ter.ifp rfl ?_
  exact down_ (Q := fun i => Ter (fun k => laws_eqByteSS.l0 k l l (i : Int)) true) l.length
    (Ter.succ (by simp only [laws_eqByteSS.l0]; exact Ter.ifn (by omega) (Ter.ret _)))
    (fun i hi ih => by
      refine Ter.succ ?_
      simp only [laws_eqByteSS.l0]
      refine Ter.ifp (by omega) (Ter.ifp (by omega) (Ter.ifp (by omega) ?_))
      rw [show rd_L1 l (i : Int) = l[i] from getD_at hi]
      refine (eqByteS_is (h.2 _ (List.getElem_mem hi))).bind (Ter.ifp rfl ?_)
      rw [w64s hi (by omega)]
      exact ih) 0 (by omega)

theorem eqMemory_is {l : List (List Int)} (h : l.length ≤ maxLen ∧ ∀ z ∈ l, z.length ≤ maxLen) : Ter (fun k => laws_eqMemory.f k l l) true := (eqByteSS_is h).bind (Ter.ifp rfl (Ter.ret _))

/-- Marks: the numbers written and the number behind them; what is held is told again. -/
theorem markByteS_is {l : List Int} {a : Int} (h0 : 0 ≤ a) (h1 : a + l.length ≤ 9223372036854775807) : ∃ y, y.length = l.length ∧ Ter (fun k => laws_markByteS.f k l a) (a + l.length, y) ∧ Ter (fun k => laws_heldByteS.f k y a) (a + l.length) := by
  unfold laws_markByteS.f laws_heldByteS.f
  have key := down_ (Q := fun i => ∀ y : List Int, y.length = l.length → ∃ y', y'.length = l.length ∧ (∀ j, j < i → y'[j]? = y[j]?) ∧ Ter (fun k => laws_markByteS.l0 k y (a + i) (i : Int)) (a + l.length, y') ∧ Ter (fun k => laws_heldByteS.l0 k y' (a + i) (i : Int)) (a + l.length)) l.length
    (fun y hy => ⟨y, hy, fun _ _ => rfl, Ter.succ (by simp only [laws_markByteS.l0]; exact Ter.ifn (by omega) (Ter.ret _)), Ter.succ (by simp only [laws_heldByteS.l0]; exact Ter.ifn (by omega) (Ter.ret _))⟩)
    (fun i hi ih y hy => by
      obtain ⟨y', hy', hj, hm, hh⟩ := ih (y.set i ((a + i) % 256)) (by simpa using hy)
      have e : (a + (i : Int)) + 1 = a + ((i + 1 : Nat) : Int) := by omega
      refine ⟨y', hy', fun j hji => ?_, Ter.succ ?_, Ter.succ ?_⟩
      · rw [hj j (by omega), List.getElem?_set_ne (by omega)]
      · simp only [laws_markByteS.l0]
        refine Ter.ifp (by omega) (Ter.ifp (by omega) ?_)
        rw [w64s hi (by omega), w64 (by omega) (by omega), e, Int.toNat_natCast]
        exact hm
      · simp only [laws_heldByteS.l0]
        refine Ter.ifp (by omega) (Ter.ifp (by omega) (Ter.ifp ?_ ?_))
        · have := hj i (by omega)
          rw [List.getElem?_set_self (by omega), List.getElem?_eq_getElem (by omega)] at this
          rw [rd_at (by omega)]
          exact Option.some.inj this
        · rw [w64s hi (by omega), w64 (by omega) (by omega), e]
          exact hh) 0 (by omega) l rfl
  obtain ⟨y, hy, _, hm, hh⟩ := key
  exact ⟨y, hy, by simpa using hm, by simpa using hh⟩

def total (l : List (List Int)) : Nat := (l.map List.length).sum

theorem total_le : ∀ {l : List (List Int)}, (∀ z ∈ l, Small z) → total l ≤ l.length * 1048576
  | [], _ => by simp [total]
  | z :: l, h => by
    have := total_le (fun z hz => h z (List.mem_cons_of_mem _ hz))
    have := (h z (List.mem_cons_self ..)).le
    simp only [total, List.map_cons, List.sum_cons, List.length_cons] at *
    omega

theorem markByteSS_is {l : List (List Int)} {a : Int} (h0 : 0 ≤ a) (hl : l.length ≤ 4294967296) (h1 : a + total l ≤ 9223372036854775807) : ∃ y, y.length = l.length ∧ Ter (fun k => laws_markByteSS.f k l a) (a + total l, y) ∧ Ter (fun k => laws_heldByteSS.f k y a) (a + total l) := by
  unfold laws_markByteSS.f laws_heldByteSS.f
  have key := down_ (Q := fun i => ∀ (b : Int) (y : List (List Int)), 0 ≤ b → b + total (l.drop i) ≤ 9223372036854775807 → y.length = l.length → (∀ j, i ≤ j → y[j]? = l[j]?) → ∃ y', y'.length = l.length ∧ (∀ j, j < i → y'[j]? = y[j]?) ∧ Ter (fun k => laws_markByteSS.l0 k y b (i : Int)) (b + total (l.drop i), y') ∧ Ter (fun k => laws_heldByteSS.l0 k y' b (i : Int)) (b + total (l.drop i))) l.length
    (fun b y hb hb2 hy _ => ⟨y, hy, fun _ _ => rfl, Ter.succ (by simp only [laws_markByteSS.l0]; exact Ter.ifn (by omega) ((Ter.ret _).eq (by simp [total]))), Ter.succ (by simp only [laws_heldByteSS.l0]; exact Ter.ifn (by omega) ((Ter.ret _).eq (by simp [total])))⟩)
    (fun i hi ih b y hb hb2 hy hsame => by
      have hd : l.drop i = l[i] :: l.drop (i + 1) := List.drop_eq_getElem_cons hi
      have ht : total (l.drop i) = l[i].length + total (l.drop (i + 1)) := by rw [hd]; rfl
      rw [ht] at hb2 ⊢
      obtain ⟨z, hz, hzm, hzh⟩ := markByteS_is (l := l[i]) hb (by omega)
      obtain ⟨y', hy', hj, hm, hh⟩ := ih (b + l[i].length) (y.set i z) (by omega) (by omega) (by simpa using hy) (fun j hj => by rw [List.getElem?_set_ne (by omega)]; exact hsame j (by omega))
      have e : b + (l[i].length : Int) + (total (l.drop (i + 1)) : Int) = b + ((l[i].length + total (l.drop (i + 1)) : Nat) : Int) := by omega
      rw [e] at hm hh
      have hyi : y[i]'(by omega) = l[i] := by
        have := hsame i (Nat.le_refl _)
        rw [List.getElem?_eq_getElem (by omega), List.getElem?_eq_getElem hi] at this
        exact Option.some.inj this
      refine ⟨y', hy', fun j hji => ?_, Ter.succ ?_, Ter.succ ?_⟩
      · rw [hj j (by omega), List.getElem?_set_ne (by omega)]
      · simp only [laws_markByteSS.l0]
        refine Ter.ifp (by omega) (Ter.ifp (by omega) ?_)
        rw [show rd_L1 y (i : Int) = l[i] from (getD_at (by omega)).trans hyi]
        refine hzm.bind ?_
        rw [w64s hi (by omega), Int.toNat_natCast]
        exact hm
      · simp only [laws_heldByteSS.l0]
        refine Ter.ifp (by omega) (Ter.ifp (by omega) ?_)
        have := hj i (by omega)
        rw [List.getElem?_set_self (by omega), List.getElem?_eq_getElem (by omega)] at this
        rw [show rd_L1 y' (i : Int) = z from (getD_at (by omega)).trans (Option.some.inj this)]
        refine hzh.bind (Ter.ifn (by omega) ?_)
        rw [w64s hi (by omega)]
        exact hh) 0 (by omega) a l h0 (by simpa using h1) rfl (fun _ _ => rfl)
  obtain ⟨y, hy, _, hm, hh⟩ := key
  exact ⟨y, hy, by simpa using hm, by simpa using hh⟩

theorem heldMemory_is {y : List (List Int)} {a r : Int} (h0 : 0 ≤ r) (h : Ter (fun k => laws_heldByteSS.f k y a) r) : Ter (fun k => laws_heldMemory.f k y a) r := h.bind (Ter.ifn (by omega) (Ter.ret _))
end Go.Proofs.Ythlppjdlljofdaa.P
namespace Go.Proofs.Ythlppjdlljofdaa.P
open Go.RowKit Go.Proofs.YthlppjdlljofdaaW.PrintWords Go.Proofs.YthlppjdlljofdaaW.PrintLast Go.Proofs.YthlppjdlljofdaaW.PrintMore
set_option linter.unusedVariables false

theorem szWindowS_is {l : List S26} {a : Int} (h0 : 0 ≤ a) (h1 : a ≤ 1048576) (hl : l.length ≤ maxLen) : ∃ r, laws_szWindowS.f l a = some r ∧ (r < 0 ∨ (0 ≤ r ∧ r ≤ a ∧ Small l)) := by
  rw [maxLen_] at hl
  unfold laws_szWindowS.f Small
  rw [w64 (by omega) (by omega)]
  by_cases h : a - (l.length : Int) < 0
  · rw [if_pos h]; exact ⟨_, rfl, .inl (by omega)⟩
  · rw [if_neg h]; exact ⟨_, rfl, .inr (by omega)⟩

/-- A window of the laws as one of the program. -/
def winOf (x : S26) : S32 := ⟨x.f0, x.f1, x.f2, x.f3⟩

def wf64 (n : Int) : Prop := -9223372036854775808 ≤ n ∧ n ≤ 9223372036854775807

theorem wf64_of {n : Int} (h : (Lit.int .i64 n).wf = true) : wf64 n := by
  simp only [Lit.wf, Bool.and_eq_true, decide_eq_true_eq] at h
  exact h

def wfW (x : S32) : Prop := wf64 x.f0 ∧ wf64 x.f1 ∧ wf64 x.f2 ∧ wf64 x.f3

theorem wfW_of {x : S26} (h : wf26 x) : wfW (winOf x) := ⟨wf64_of h.1, wf64_of h.2.1, wf64_of h.2.2.1, wf64_of h.2.2.2⟩

theorem toWindowS_is {l : List S26} (h : Small l) : Ter (fun k => laws_toWindowS.f k l) (l.map winOf) := by
  have hl := h.le
  unfold laws_toWindowS.f
  refine Ter.ifp (by omega) (Ter.ifp (by omega) ?_)
  have hm : (l.map winOf).length = l.length := by simp
  have key := down_ (Q := fun i => Ter (fun k => laws_toWindowS.l0 k l ((l.map winOf).take i ++ List.replicate ((l.map winOf).length - i) z32) (i : Int)) (l.map winOf)) (l.map winOf).length
    (Ter.succ (by simp only [laws_toWindowS.l0]; exact Ter.ifn (by omega) ((Ter.ret _).eq fill_all)))
    (fun i hi ih => by
      refine Ter.succ ?_
      simp only [laws_toWindowS.l0]
      have hi' : i < l.length := by omega
      refine Ter.ifp (by omega) (Ter.ifp (by omega) ?_)
      rw [show rd_T26 l (i : Int) = l[i] from getD_at hi']
      refine Ter.bind (F := fun _ => laws_toWindow.f _ _ _ _) (Ter.ret _) (Ter.ifp (by rw [fill_len (by omega)]; omega) ?_)
      rw [w64s hi (by omega)]
      have e := fill_set (z := z32) hi
      rw [show (l.map winOf)[i] = winOf l[i] by simp] at e
      show Ter (fun k => laws_toWindowS.l0 k l (List.set _ _ (winOf l[i])) _) _
      rw [e]
      exact ih) 0 (by omega)
  simpa using key

theorem eqWindow_is (a b c d : Int) : laws_eqWindow.f a b c d a b c d = some true := by simp [laws_eqWindow.f]

theorem eqWindowS_is {l : List S32} (h : l.length ≤ maxLen) : Ter (fun k => laws_eqWindowS.f k l l) true := by
  rw [maxLen_] at h
  unfold laws_eqWindowS.f
  refine Ter.ifp rfl ?_
  exact down_ (Q := fun i => Ter (fun k => laws_eqWindowS.l0 k l l (i : Int)) true) l.length
    (Ter.succ (by simp only [laws_eqWindowS.l0]; exact Ter.ifn (by omega) (Ter.ret _)))
    (fun i hi ih => by
      refine Ter.succ ?_
      simp only [laws_eqWindowS.l0]
      refine Ter.ifp (by omega) (Ter.ifp (by omega) (Ter.ifp (by omega) ?_))
      refine Ter.bind (F := fun _ => laws_eqWindow.f _ _ _ _ _ _ _ _) (Ter.const (eqWindow_is _ _ _ _)) (Ter.ifp rfl ?_)
      rw [w64s hi (by omega)]
      exact ih) 0 (by omega)

theorem markWindowS_is {l : List S32} {a : Int} (h0 : 0 ≤ a) (hl : l.length ≤ 4294967296) (h1 : a + 4 * l.length ≤ 9223372036854775807) : ∃ y, y.length = l.length ∧ Ter (fun k => laws_markWindowS.f k l a) (a + 4 * l.length, y) ∧ Ter (fun k => laws_heldWindowS.f k y a) (a + 4 * l.length) := by
  unfold laws_markWindowS.f laws_heldWindowS.f
  have key := down_ (Q := fun i => ∀ y : List S32, y.length = l.length → ∃ y', y'.length = l.length ∧ (∀ j, j < i → y'[j]? = y[j]?) ∧ Ter (fun k => laws_markWindowS.l0 k y (a + 4 * i) (i : Int)) (a + 4 * l.length, y') ∧ Ter (fun k => laws_heldWindowS.l0 k y' (a + 4 * i) (i : Int)) (a + 4 * l.length)) l.length
    (fun y hy => ⟨y, hy, fun _ _ => rfl, Ter.succ (by simp only [laws_markWindowS.l0]; exact Ter.ifn (by omega) (Ter.ret _)), Ter.succ (by simp only [laws_heldWindowS.l0]; exact Ter.ifn (by omega) (Ter.ret _))⟩)
    (fun i hi ih y hy => by
      have hiy : i < y.length := by omega
      obtain ⟨y', hy', hj, hm, hh⟩ := ih (y.set i ⟨a + 4 * i, a + 4 * i + 1, a + 4 * i + 1 + 1, a + 4 * i + 1 + 1 + 1⟩) (by simpa using hy)
      have e : (a + 4 * (i : Int)) + 1 + 1 + 1 + 1 = a + 4 * ((i + 1 : Nat) : Int) := by omega
      have r0 : ∀ (z : List S32) (v : S32), i < z.length → rd_T32 (z.set i v) (i : Int) = v := fun z v hz => by
        rw [show rd_T32 (z.set i v) (i : Int) = (z.set i v)[i]'(by simpa using hz) from getD_at (by simpa using hz)]
        simp
      refine ⟨y', hy', fun j hji => ?_, Ter.succ ?_, Ter.succ ?_⟩
      · rw [hj j (by omega), List.getElem?_set_ne (by omega)]
      · simp only [laws_markWindowS.l0]
        refine Ter.ifp (by omega) (Ter.ifp (by omega) ?_)
        simp only [Option.bind_some, Int.toNat_natCast]
        rw [r0 y _ hiy]
        simp only [List.set_set]
        rw [r0 y _ hiy]
        simp only []
        rw [r0 y _ hiy, w64s hi (by omega), w64 (n := a + 4 * i + 1) (by omega) (by omega), w64 (n := a + 4 * i + 1 + 1) (by omega) (by omega), w64 (n := a + 4 * i + 1 + 1 + 1) (by omega) (by omega), w64 (n := a + 4 * i + 1 + 1 + 1 + 1) (by omega) (by omega), e]
        exact hm
      · simp only [laws_heldWindowS.l0]
        have := hj i (by omega)
        rw [List.getElem?_set_self (by omega), List.getElem?_eq_getElem (by omega)] at this
        rw [show rd_T32 y' (i : Int) = y'[i]'(by omega) from getD_at (by omega), Option.some.inj this]
        rw [w64s hi (by omega), w64 (n := a + 4 * i + 1) (by omega) (by omega), w64 (n := a + 4 * i + 1 + 1) (by omega) (by omega), w64 (n := a + 4 * i + 1 + 1 + 1) (by omega) (by omega), w64 (n := a + 4 * i + 1 + 1 + 1 + 1) (by omega) (by omega), e]
        refine Ter.ifp (by omega) (Ter.ifp (by omega) ?_)
        simp only [if_true]
        exact hh) 0 (by omega) l rfl
  obtain ⟨y, hy, _, hm, hh⟩ := key
  exact ⟨y, hy, by simpa using hm, by simpa using hh⟩
end Go.Proofs.Ythlppjdlljofdaa.P
namespace Go.Proofs.Ythlppjdlljofdaa.P
open Go.RowKit Go.Proofs.YthlppjdlljofdaaW.PrintWords Go.Proofs.YthlppjdlljofdaaW.PrintLast Go.Proofs.YthlppjdlljofdaaW.PrintMore
set_option linter.unusedVariables false

theorem in_is (a b c : Int) : spec_l1In.f a b c = some (decide (b ≤ a ∧ a ≤ c)) := by
  unfold spec_l1In.f
  by_cases h : a ≥ b
  · rw [if_pos h]; congr 1; simp only [decide_eq_decide]; omega
  · rw [if_neg h]; congr 1; symm; simp only [decide_eq_false_iff_not]; omega

theorem within_is (a b c : Int) : impl_within.f a b c = some (decide (b ≤ a ∧ a ≤ c)) := by
  unfold impl_within.f
  by_cases h : a ≥ b
  · rw [if_pos h]; congr 1; simp only [decide_eq_decide]; omega
  · rw [if_neg h]; congr 1; symm; simp only [decide_eq_false_iff_not]; omega

/-- A valid memory. -/
def IsMem (m : List (List Int)) : Prop := m.length ≤ 16 ∧ ∀ z ∈ m, 1 ≤ z.length ∧ z.length ≤ 64

instance (m : List (List Int)) : Decidable (IsMem m) := by unfold IsMem; infer_instance

theorem IsMem.at {m : List (List Int)} (h : IsMem m) {i : Nat} (hi : i < m.length) : 1 ≤ m[i].length ∧ m[i].length ≤ 64 := h.2 _ (List.getElem_mem hi)

theorem l2Memory_is {m : List (List Int)} (h : m.length ≤ maxLen) : Ter (fun k => spec_l2Memory.f k m) (decide (IsMem m)) := by
  rw [maxLen_] at h
  unfold spec_l2Memory.f
  have key := down_ (Q := fun i => (∀ j, j < i → ∀ hj : j < m.length, 1 ≤ m[j].length ∧ m[j].length ≤ 64) → Ter (fun k => spec_l2Memory.l0 k (i : Int) m) (decide (IsMem m))) m.length
    (fun ok => by
      refine Ter.succ ?_
      simp only [spec_l2Memory.l0]
      refine Ter.ifn (by omega) (Ter.succ ?_)
      simp only [spec_l2Memory.j1]
      refine Ter.ifn (by simp) ((Ter.ret _).eq ?_)
      simp only [decide_eq_decide]
      constructor
      · intro h1
        refine ⟨by omega, fun z hz => ?_⟩
        obtain ⟨j, hj, rfl⟩ := List.getElem_of_mem hz
        exact ok j hj hj
      · intro h1; have := h1.1; omega)
    (fun i hi ih ok => by
      refine Ter.succ ?_
      simp only [spec_l2Memory.l0]
      refine Ter.ifp (by omega) (Ter.succ ?_)
      simp only [spec_l2Memory.j1]
      by_cases h16 : (i : Int) ≤ 16
      · refine Ter.ifp (by simpa using h16) (Ter.ifp (by omega) (Ter.ifp (by omega) ?_))
        rw [show rd_L1 m (i : Int) = m[i] from getD_at hi, in_is]
        by_cases hl : 1 ≤ (m[i].length : Int) ∧ (m[i].length : Int) ≤ 64
        · refine Ter.ifp (c := decide _ = true) (by simpa using hl) ?_
          rw [w64s hi (by omega)]
          exact ih (fun j hj hj2 => by
            by_cases hji : j = i
            · subst hji; omega
            · exact ok j (by omega) hj2)
        · refine Ter.ifn (c := decide _ = true) (by simpa using hl) ((Ter.ret _).eq ?_)
          symm
          simp only [decide_eq_false_iff_not]
          intro h1
          have := h1.at hi
          omega
      · refine Ter.ifn (by simpa using h16) ((Ter.ret _).eq ?_)
        simp only [decide_eq_decide]
        constructor
        · intro h1; omega
        · intro h1; have := h1.1; omega) 0 (by omega)
  exact key (fun j hj => by omega)

theorem isMemory_is {m : List (List Int)} (h : m.length ≤ maxLen) : Ter (fun k => impl_IsMemory.f k m) (decide (IsMem m)) := by
  rw [maxLen_] at h
  unfold impl_IsMemory.f
  have key := down_ (Q := fun i => (∀ j, j < i → ∀ hj : j < m.length, 1 ≤ m[j].length ∧ m[j].length ≤ 64) → Ter (fun k => impl_IsMemory.l0 k m (m.length : Int) (i : Int) m) (decide (IsMem m))) m.length
    (fun ok => by
      refine Ter.succ ?_
      simp only [impl_IsMemory.l0]
      refine Ter.ifn (by omega) ((Ter.ret _).eq ?_)
      simp only [decide_eq_decide]
      constructor
      · intro h1
        refine ⟨by omega, fun z hz => ?_⟩
        obtain ⟨j, hj, rfl⟩ := List.getElem_of_mem hz
        exact ok j hj hj
      · intro h1; have := h1.1; omega)
    (fun i hi ih ok => by
      refine Ter.succ ?_
      simp only [impl_IsMemory.l0]
      refine Ter.ifp (by omega) (Ter.ifp (by omega) (Ter.ifp (by omega) ?_))
      rw [show rd_L1 m (i : Int) = m[i] from getD_at hi, within_is]
      by_cases hl : 1 ≤ (m[i].length : Int) ∧ (m[i].length : Int) ≤ 64
      · refine Ter.ifp (c := decide _ = true) (by simpa using hl) ?_
        rw [w64s hi (by omega)]
        exact ih (fun j hj hj2 => by
          by_cases hji : j = i
          · subst hji; omega
          · exact ok j (by omega) hj2)
      · refine Ter.ifn (c := decide _ = true) (by simpa using hl) ((Ter.ret _).eq ?_)
        symm
        simp only [decide_eq_false_iff_not]
        intro h1
        have := h1.at hi
        omega) 0 (by omega)
  exact key (fun j hj => by omega)

/-- A window of the memory. -/
def OnMem (m : List (List Int)) (a s n c : Int) : Prop := 0 ≤ a ∧ a < m.length ∧ 0 ≤ s ∧ s + c ≤ ((m.getD a.toNat []).length : Int) ∧ 0 ≤ n ∧ n ≤ c

instance (m : List (List Int)) (a s n c : Int) : Decidable (OnMem m a s n c) := by unfold OnMem; infer_instance

theorem OnMem.c0 {m : List (List Int)} {a s n c : Int} (h : OnMem m a s n c) : 0 ≤ c := by obtain ⟨_, _, _, _, _, _⟩ := h; omega

theorem l2Window_is {m : List (List Int)} {a s n c : Int} (h : m.length ≤ maxLen) (hz : ∀ z ∈ m, z.length ≤ maxLen) : Ter (fun k => spec_l2Window.f k m a s n c) (decide (IsMem m ∧ OnMem m a s n c)) := by
  have h' := h
  rw [maxLen_] at h'
  unfold spec_l2Window.f
  refine (l2Memory_is h).bind ?_
  by_cases hm : IsMem m
  · refine Ter.ifp (by simpa using hm) ?_
    rw [in_is, w64 (by omega) (by omega)]
    refine Ter.bind (F := fun _ => some _) (Ter.ret _) (Ter.succ ?_)
    simp only [spec_l2Window.j0]
    by_cases ha : 0 ≤ a ∧ a ≤ (m.length : Int) - 1
    · refine Ter.ifn (by simp [ha]) (Ter.ifp (by omega) (Ter.ifp (by omega) ?_))
      obtain ⟨i, rfl⟩ : ∃ i : Nat, a = (i : Int) := ⟨a.toNat, by omega⟩
      have hi : i < m.length := by omega
      rw [show rd_L1 m (i : Int) = m[i] from getD_at hi]
      simp only [in_is, Option.bind_some]
      have hl := hm.at hi
      by_cases h1 : 0 ≤ s ∧ s ≤ (m[i].length : Int)
      · rw [w64 (by omega) (by omega)]
        refine Ter.ifp (by simpa using h1) ?_
        by_cases h2 : 0 ≤ c ∧ c ≤ (m[i].length : Int) - s
        · refine Ter.ifp (by simpa using h2) ((Ter.ret _).eq ?_)
          simp only [decide_eq_decide]
          unfold OnMem
          rw [getD_at hi]
          constructor
          · intro h3; exact ⟨hm, by omega⟩
          · intro h3; obtain ⟨_, h4⟩ := h3; omega
        · refine Ter.ifn (by simpa using h2) ((Ter.ret _).eq ?_)
          symm
          simp only [decide_eq_false_iff_not]
          unfold OnMem
          rw [getD_at hi]
          rintro ⟨_, h4⟩; omega
      · refine Ter.ifn (by simpa using h1) ((Ter.ret _).eq ?_)
        symm
        simp only [decide_eq_false_iff_not]
        unfold OnMem
        rw [getD_at hi]
        rintro ⟨_, h4⟩; omega
    · refine Ter.ifp (by simp only [Bool.not_eq_true', decide_eq_false_iff_not]; omega) ((Ter.ret _).eq ?_)
      symm
      simp only [decide_eq_false_iff_not]
      unfold OnMem
      rintro ⟨_, h4⟩; omega
  · refine Ter.ifn (by simpa using hm) (Ter.succ ?_)
    simp only [spec_l2Window.j0]
    simp only [if_true]
    refine (Ter.ret _).eq ?_
    symm
    simp only [decide_eq_false_iff_not]
    exact fun h1 => hm h1.1

theorem hasWindow_is {m : List (List Int)} {a s n c : Int} (hm : IsMem m) (hs : wf64 s) (hc : wf64 c) : impl_Memory_hasWindow.f m a s n c = some (decide (OnMem m a s n c)) := by
  have hml := hm.1
  unfold impl_Memory_hasWindow.f impl_Memory_hasArray.f
  simp only [within_is, Option.bind_some, decide_eq_true_eq]
  rw [w64 (n := (m.length : Int) - 1) (by omega) (by omega)]
  by_cases ha : 0 ≤ a ∧ a ≤ (m.length : Int) - 1
  · rw [if_pos ha]
    obtain ⟨i, rfl⟩ : ∃ i : Nat, a = (i : Int) := ⟨a.toNat, by omega⟩
    have hi : i < m.length := by omega
    have hl := hm.at hi
    rw [show rd_L1 m (i : Int) = m[i] from getD_at hi]
    by_cases h1 : 0 ≤ c ∧ c ≤ 64
    · rw [if_pos h1]
      by_cases h2 : 0 ≤ n ∧ n ≤ c
      · rw [if_pos h2, if_pos (by omega), if_pos (by omega), w64 (by omega) (by omega)]
        congr 1
        simp only [decide_eq_decide]
        unfold OnMem
        rw [getD_at hi]
        omega
      · rw [if_neg h2]
        congr 1
        symm
        simp only [decide_eq_false_iff_not]
        unfold OnMem
        rw [getD_at hi]
        omega
    · rw [if_neg h1]
      congr 1
      symm
      simp only [decide_eq_false_iff_not]
      unfold OnMem
      rw [getD_at hi]
      omega
  · rw [if_neg ha]
    congr 1
    symm
    simp only [decide_eq_false_iff_not]
    unfold OnMem
    omega

theorem l2Own_is {m : List (List Int)} (h : IsMem m) : Ter (fun k => spec_l2Own.f k m) m := by
  have hml := h.1
  unfold spec_l2Own.f
  have key := down_ (Q := fun i => Ter (fun k => spec_l2Own.l0 k (i : Int) m (m.take i)) m) m.length
    (Ter.succ (by simp only [spec_l2Own.l0]; exact Ter.ifn (by omega) ((Ter.ret _).eq (List.take_length))))
    (fun i hi ih => by
      refine Ter.succ ?_
      simp only [spec_l2Own.l0]
      have hl := h.at hi
      rw [show rd_L1 m (i : Int) = m[i] from getD_at hi]
      refine Ter.ifp (by omega) (Ter.bind (F := fun _ => some _) (Ter.ret _) (Ter.ifp (by omega) (Ter.ifp (by simp; omega) (Ter.ifp (by simp; omega) ?_))))
      rw [w64s hi (by omega), List.nil_append, take_one hi]
      exact ih) 0 (by omega)
  simpa using key

theorem memOwn_is {m : List (List Int)} (h : IsMem m) : Ter (fun k => impl_Memory_own.f k m) m := by
  have hml := h.1
  unfold impl_Memory_own.f
  have key := down_ (Q := fun i => Ter (fun k => impl_Memory_own.l0 k m (m.length : Int) (i : Int) (m.take i)) m) m.length
    (Ter.succ (by simp only [impl_Memory_own.l0]; exact Ter.ifn (by omega) ((Ter.ret _).eq (List.take_length))))
    (fun i hi ih => by
      refine Ter.succ ?_
      simp only [impl_Memory_own.l0]
      have hl := h.at hi
      rw [show rd_L1 m (i : Int) = m[i] from getD_at hi]
      refine Ter.ifp (by omega) (Ter.ifp (by omega) (Ter.ifp (by omega) ?_))
      refine Ter.bind (F := fun _ => slices_Clone_byte.f _) (Ter.const (by unfold slices_Clone_byte.f; rw [if_pos (by omega)])) (Ter.ifp (by simp; omega) ?_)
      rw [w64s hi (by omega), take_one hi]
      exact ih) 0 (by omega)
  simpa using key
end Go.Proofs.Ythlppjdlljofdaa.P
namespace Go.Proofs.Ythlppjdlljofdaa.P
open Go.RowKit Go.Proofs.YthlppjdlljofdaaW.PrintWords Go.Proofs.YthlppjdlljofdaaW.PrintLast Go.Proofs.YthlppjdlljofdaaW.PrintMore
set_option linter.unusedVariables false

def OnW (m : List (List Int)) (w : S32) : Prop := OnMem m w.f0 w.f1 w.f2 w.f3

instance (m : List (List Int)) (w : S32) : Decidable (OnW m w) := by unfold OnW; infer_instance

def AreOn (m : List (List Int)) (ws : List S32) : Prop := IsMem m ∧ ∀ w ∈ ws, OnW m w

instance (m : List (List Int)) (ws : List S32) : Decidable (AreOn m ws) := by unfold AreOn; infer_instance

theorem l3Watched_is {m : List (List Int)} {ws : List S32} (h : m.length ≤ maxLen) (hz : ∀ z ∈ m, z.length ≤ maxLen) (hw : ws.length ≤ maxLen) : Ter (fun k => spec_l3Watched.f k m ws) (decide (AreOn m ws ∧ ws.length ≤ 12)) := by
  have hw' := hw
  rw [maxLen_] at hw'
  unfold spec_l3Watched.f
  have key := down_ (Q := fun i => (∀ j, j < i → ∀ hj : j < ws.length, OnW m ws[j]) → Ter (fun k => spec_l3Watched.l0 k ws (i : Int) m) (decide (AreOn m ws ∧ ws.length ≤ 12))) ws.length
    (fun ok => by
      refine Ter.succ ?_
      simp only [spec_l3Watched.l0]
      refine Ter.ifn (by omega) (Ter.succ ?_)
      simp only [spec_l3Watched.j1]
      refine Ter.ifn (by simp) ((l2Memory_is h).bind ?_)
      by_cases hm : IsMem m
      · refine Ter.ifp (by simpa using hm) ((Ter.ret _).eq ?_)
        simp only [decide_eq_decide]
        constructor
        · intro h1
          refine ⟨⟨hm, fun w hw => ?_⟩, by omega⟩
          obtain ⟨j, hj, rfl⟩ := List.getElem_of_mem hw
          exact ok j hj hj
        · intro h1; omega
      · refine Ter.ifn (by simpa using hm) ((Ter.ret _).eq ?_)
        symm
        simp only [decide_eq_false_iff_not]
        exact fun h1 => hm h1.1.1)
    (fun i hi ih ok => by
      refine Ter.succ ?_
      simp only [spec_l3Watched.l0]
      refine Ter.ifp (by omega) (Ter.succ ?_)
      simp only [spec_l3Watched.j1]
      by_cases h16 : (i : Int) ≤ 12
      · refine Ter.ifp (by simpa using h16) (Ter.ifp (by omega) (Ter.ifp (by omega) ?_))
        rw [show rd_T32 ws (i : Int) = ws[i] from getD_at hi]
        refine (l2Window_is h hz).bind ?_
        by_cases hl : IsMem m ∧ OnW m ws[i]
        · refine Ter.ifp (c := decide _ = true) (by simpa [OnW] using hl) ?_
          rw [w64s hi (by omega)]
          exact ih (fun j hj hj2 => by
            by_cases hji : j = i
            · subst hji; exact hl.2
            · exact ok j (by omega) hj2)
        · refine Ter.ifn (c := decide _ = true) (by simpa [OnW] using hl) ((Ter.ret _).eq ?_)
          symm
          simp only [decide_eq_false_iff_not]
          exact fun h1 => hl ⟨h1.1.1, h1.1.2 _ (List.getElem_mem hi)⟩
      · refine Ter.ifn (by simpa using h16) ((l2Memory_is h).bind ?_)
        have hf : decide (AreOn m ws ∧ ws.length ≤ 12) = false := by
          simp only [decide_eq_false_iff_not]
          intro h1; have := h1.2; omega
        rw [hf]
        by_cases hm : IsMem m
        · refine Ter.ifp (by simpa using hm) ((Ter.ret _).eq ?_)
          simp only [decide_eq_false_iff_not]
          omega
        · exact Ter.ifn (by simpa using hm) (Ter.ret _)) 0 (by omega)
  exact key (fun j hj => by omega)

theorem areOn_is {m : List (List Int)} {ws : List S32} (h : m.length ≤ maxLen) (hw : ∀ w ∈ ws, wfW w) : Ter (fun k => impl_areOn.f k m ws) (decide (AreOn m ws)) := by
  unfold impl_areOn.f
  refine (isMemory_is h).bind ((Ter.ret _).eq ?_)
  by_cases hm : IsMem m
  · simp only [hm, decide_true, Bool.true_and]
    rw [Bool.eq_iff_iff]
    simp only [List.all_eq_true, decide_eq_true_eq]
    constructor
    · intro h1
      refine ⟨hm, fun w hw1 => ?_⟩
      have := h1 w hw1
      unfold hasW at this
      rw [hasWindow_is hm (hw w hw1).2.1 (hw w hw1).2.2.2] at this
      simpa [OnW] using this
    · intro h1 w hw1
      unfold hasW
      rw [hasWindow_is hm (hw w hw1).2.1 (hw w hw1).2.2.2]
      simpa [OnW] using h1.2 w hw1
  · simp only [hm, decide_false, Bool.false_and]
    symm
    simp only [decide_eq_false_iff_not]
    exact fun h1 => hm h1.1
end Go.Proofs.Ythlppjdlljofdaa.P
namespace Go.Proofs.Ythlppjdlljofdaa.P
open Go.RowKit Go.Proofs.YthlppjdlljofdaaW.PrintWords Go.Proofs.YthlppjdlljofdaaW.PrintLast Go.Proofs.YthlppjdlljofdaaW.PrintMore
set_option linter.unusedVariables false

theorem szDesk_is {l : List (List Int)} {ws : List S26} {c : Int} (hl : l.length ≤ maxLen ∧ ∀ z ∈ l, z.length ≤ maxLen) (hw : ws.length ≤ maxLen) : ∃ r, Ter (fun k => laws_szDesk.f k l ws c 1048576) r ∧ (r < 0 ∨ (¬ r < 0 ∧ Small l ∧ (∀ z ∈ l, Small z) ∧ Small ws)) := by
  unfold laws_szDesk.f
  obtain ⟨r, hr, h⟩ := szMemory_is (a := 1048576) (by omega) (by omega) hl
  rcases h with h | ⟨h1, h2, h3, h4⟩
  · exact ⟨-1, hr.bind (Ter.ifp h (Ter.ret _)), .inl (by omega)⟩
  · obtain ⟨q, hq, h⟩ := szWindowS_is h1 h2 hw
    rcases h with h | ⟨h5, h6, h7⟩
    · exact ⟨-1, hr.bind (Ter.ifn (by omega) (Ter.bind (F := fun _ => laws_szWindowS.f ws r) (Ter.const hq) (Ter.ifp h (Ter.ret _)))), .inl (by omega)⟩
    · exact ⟨q, hr.bind (Ter.ifn (by omega) (Ter.bind (F := fun _ => laws_szWindowS.f ws r) (Ter.const hq) (Ter.ifn (by omega) (Ter.ret _)))), .inr ⟨by omega, h3, h4, h7⟩⟩

theorem markDesk_is {m : List (List Int)} {ws : List S32} {c : Int} (hm : m.length ≤ 1048576) (hz : ∀ z ∈ m, Small z) (hw : ws.length ≤ 1048576) : ∃ r x y, ¬ r < 0 ∧ Ter (fun k => laws_markDesk.f k m ws 1) (r, x, y) ∧ Ter (fun k => laws_heldDesk.f k x y c 1) r := by
  have ht := total_le hz
  obtain ⟨x, hx, hm1, hm2⟩ := markByteSS_is (l := m) (a := 1) (by omega) (by omega) (by omega)
  obtain ⟨y, hy, hy1, hy2⟩ := markWindowS_is (l := ws) (a := 1 + total m) (by omega) (by omega) (by omega)
  refine ⟨_, x, y, by omega, hm1.bind (hy1.bind (Ter.ret _)), ?_⟩
  unfold laws_heldDesk.f
  exact (heldMemory_is (by omega) hm2).bind (Ter.ifn (by omega) (hy2.bind (Ter.ifn (by omega) (Ter.ret _))))

theorem FnExactNewConsole.pure : FnExactNewConsole.Pure := by
  intro l0 ws0 c ⟨hl1, hl2⟩ ⟨hw1, hw2⟩ hc
  obtain ⟨r, hr, h⟩ := szDesk_is (c := c) ⟨hl1, fun z hz => (hl2 z hz).1⟩ hw1
  rcases h with h | ⟨h, hs1, hs2, hs3⟩
  · obtain ⟨K, hK⟩ := hr
    exact .inr ⟨K, r, hK K (Nat.le_refl _), h⟩
  · have hws : ∀ w ∈ ws0.map winOf, wfW w := fun w hw => by
      obtain ⟨x, hx, rfl⟩ := List.mem_map.1 hw
      exact wfW_of (hw2 x hx)
    have hsw : Small (ws0.map winOf) := by unfold Small; simpa using hs3.le
    generalize hq : ws0.map winOf = ws at hws hsw
    have hto : Ter (fun k => laws_toDesk.f k l0 ws0 c) (l0, ws, c) := (toMemory_is hs1 hs2).bind ((toWindowS_is hs3).bind (Ter.eq (Ter.ret _) (by rw [hq])))
    have spec1 : Ter (fun k => spec_l12Good.f k l0 ws c) (decide (AreOn l0 ws ∧ ws.length ≤ 8 ∧ 0 ≤ c ∧ c ≤ 1000)) := by
      unfold spec_l12Good.f
      refine (l3Watched_is hl1 (fun z hz => (hl2 z hz).1) (by have := hsw.le; rw [maxLen_]; omega)).bind ?_
      by_cases h1 : AreOn l0 ws ∧ ws.length ≤ 12
      · refine Ter.ifp (by simpa using h1) ?_
        by_cases h2 : (ws.length : Int) ≤ 8
        · refine Ter.ifp h2 ?_
          rw [in_is]
          refine Ter.eq (Ter.ret _) ?_
          simp only [decide_eq_decide]
          constructor
          · intro h3; exact ⟨h1.1, by omega, h3⟩
          · intro h3; exact h3.2.2
        · refine Ter.ifn h2 (Ter.eq (Ter.ret _) ?_)
          symm
          simp only [decide_eq_false_iff_not]
          intro h3; have := h3.2.1; omega
      · refine Ter.ifn (by simpa using h1) (Ter.eq (Ter.ret _) ?_)
        symm
        simp only [decide_eq_false_iff_not]
        intro h3
        exact h1 ⟨h3.1, by have := h3.2.1; omega⟩
    have impl1 : Ter (fun k => impl_IsDesk.f k l0 ws c) (decide (AreOn l0 ws ∧ ws.length ≤ 8 ∧ 0 ≤ c ∧ c ≤ 1000)) := by
      unfold impl_IsDesk.f
      refine (areOn_is hl1 hws).bind ?_
      by_cases h1 : AreOn l0 ws
      · refine Ter.ifp (by simpa using h1) ?_
        by_cases h2 : (ws.length : Int) ≤ 8
        · refine Ter.ifp h2 ?_
          rw [within_is]
          refine Ter.eq (Ter.ret _) ?_
          simp only [decide_eq_decide]
          constructor
          · intro h3; exact ⟨h1, by omega, h3⟩
          · intro h3; exact h3.2.2
        · refine Ter.ifn h2 (Ter.eq (Ter.ret _) ?_)
          symm
          simp only [decide_eq_false_iff_not]
          intro h3; have := h3.2.1; omega
      · refine Ter.ifn (by simpa using h1) (Ter.eq (Ter.ret _) ?_)
        symm
        simp only [decide_eq_false_iff_not]
        exact fun h3 => h1 h3.1
    -- what is returned, both ways
    obtain ⟨m1, w1, c1, b1, hm1, hmz, hw1', spec, impl⟩ : ∃ m1 w1 c1 b1, m1.length ≤ 1048576 ∧ (∀ z ∈ m1, Small z) ∧ w1.length ≤ 1048576 ∧ Ter (fun k => spec_NewConsole.f k l0 ws c) (m1, w1, c1, (⟨#[]⟩ : ByteArray), (⟨#[]⟩ : ByteArray), 0, b1) ∧ Ter (fun k => impl_NewConsole.f k l0 ws c) (m1, w1, c1, (⟨#[]⟩ : ByteArray), (⟨#[]⟩ : ByteArray), 0, b1) := by
      by_cases hg : AreOn l0 ws ∧ ws.length ≤ 8 ∧ 0 ≤ c ∧ c ≤ 1000
      · refine ⟨l0, ws, c, true, hs1, hs2, hsw, ?_, ?_⟩
        · unfold spec_NewConsole.f spec_l12Own.f
          refine spec1.bind (Ter.ifp (by simpa using hg) (((l2Own_is hg.1.1).bind (Ter.bind (F := fun _ => some ([] : List S32)) (a := []) (Ter.ret _) (Ter.ifp (by have := hsw.le; simp; omega) (Ter.ret _)))).bind ?_))
          exact Ter.ret _
        · unfold impl_NewConsole.f impl_Desk_own.f
          refine impl1.bind (Ter.ifp (by simpa using hg) (((memOwn_is hg.1.1).bind (Ter.bind (F := fun _ => slices_Clone_Window.f ws) (a := ws) (Ter.const (by unfold slices_Clone_Window.f; rw [if_pos (by have := hsw.le; omega)])) (Ter.ret (l0, ws, c)))).bind ?_))
          exact Ter.ret _
      · refine ⟨[], [], 0, false, by simp, by simp, by simp, ?_, ?_⟩
        · unfold spec_NewConsole.f
          exact spec1.bind (Ter.ifn (by simpa using hg) (Ter.ret _))
        · unfold impl_NewConsole.f
          exact impl1.bind (Ter.ifn (by simpa using hg) (Ter.ret _))
    have eqd : ∀ (m : List (List Int)) (w : List S32) (c : Int), m.length ≤ 1048576 → (∀ z ∈ m, Small z) → w.length ≤ 1048576 → Ter (fun k => laws_eqDesk.f k m w c m w c) true := fun m w c h1 h2 h3 => by
      unfold laws_eqDesk.f
      refine (eqMemory_is ⟨by rw [maxLen_]; omega, fun z hz => by have := (h2 z hz).le; rw [maxLen_]; omega⟩).bind (Ter.ifp rfl ((eqWindowS_is (by rw [maxLen_]; omega)).bind (Ter.ifp rfl ?_)))
      simp only [if_true]
      exact Ter.ret _
    have eqc : Ter (fun k => laws_eqConsole.f k m1 w1 c1 (⟨#[]⟩ : ByteArray) (⟨#[]⟩ : ByteArray) 0 m1 w1 c1 (⟨#[]⟩ : ByteArray) (⟨#[]⟩ : ByteArray) 0) true := by
      unfold laws_eqConsole.f laws_eqLog.f
      refine (eqd m1 w1 c1 hm1 hmz hw1').bind (Ter.ifp rfl ?_)
      simp only [if_true]
      exact Ter.ret _
    obtain ⟨r1, x1, y1, hr1, hk1, _⟩ := markDesk_is (c := c) hs1 hs2 hsw
    obtain ⟨r2, x2, y2, hr2, hk2, hh2⟩ := markDesk_is (c := c1) hm1 hmz hw1'
    have hk3 : Ter (fun k => laws_markConsole.f k m1 w1 1) (r2, x2, y2) := hk2.bind (Ter.ret _)
    have hh3 : Ter (fun k => laws_heldConsole.f k x2 y2 c1 (⟨#[]⟩ : ByteArray) (⟨#[]⟩ : ByteArray) 0 1) r2 := hh2.bind (Ter.ifn hr2 (Ter.ret _))
    have eqs := eqd l0 ws c hs1 hs2 hsw
    obtain ⟨K0, hr⟩ := hr; obtain ⟨K1, hto⟩ := hto; obtain ⟨K2, spec⟩ := spec; obtain ⟨K3, impl⟩ := impl; obtain ⟨K4, eqc⟩ := eqc; obtain ⟨K5, eqs⟩ := eqs; obtain ⟨K6, hk1⟩ := hk1; obtain ⟨K7, hk3⟩ := hk3; obtain ⟨K8, hh3⟩ := hh3
    refine .inl ⟨K0 + K1 + K2 + K3 + K4 + K5 + K6 + K7 + K8, r, l0, ws, c, m1, w1, c1, _, _, 0, b1, r1, x1, y1, r2, x2, y2, hr _ (by omega), h, hto _ (by omega), spec _ (by omega), impl _ (by omega), eqc _ (by omega), eqs _ (by omega), hk1 _ (by omega), hr1, hk3 _ (by omega), hh3 _ (by omega), hr2⟩
end Go.Proofs.Ythlppjdlljofdaa.P
namespace Go.Proofs.Ythlppjdlljofdaa.fnExactNewConsole
open Go.ChangeShapes Go.WideShapes Go.ChangeAt Go.RowKit
open Go.ChangeMaps (open_string shut_string)
open Go.Proofs.Ythlppjdlljofdaa.P Go.Proofs.YthlppjdlljofdaaW.PrintWords Go.Proofs.YthlppjdlljofdaaW.PrintLast Go.Proofs.YthlppjdlljofdaaW.PrintMore
set_option linter.unusedVariables false

theorem own : ownKnob Try.prog.godebug = none := by kernel_rfl

theorem laidOut : laidOutB Try.prog = true := by kernel_rfl

set_option maxRecDepth 100000 in
set_option maxHeartbeats 2000000 in
theorem lifted (os : Os) (started : os.Started) (H : Type) (enc : TypeId × Value → H) :
    ReturnsInHanded {} Try.checked os 4 .any (Rows.fnExactNewConsoleSpec.pre6 enc Try.prog Try.f4 Rows.fnExactNewConsoleRow.domain false) (Rows.fnExactNewConsoleSpec.post enc Try.prog Try.f4 false true false false) := by
  refine returnsInHanded_of_change_sized (C := Try.checked) own started (by kernel_rfl) Try.func4
    (ChangeSpec.witness6 (enc := enc) (C := Try.checked) false ⟨#[], #[.agg #[.slice none 0 0, .slice none 0 0, .int .i64 0]], []⟩ 8 (by kernel_rfl) (by kernel_rfl) (by kernel_rfl) (by kernel_rfl)) ?_
  intro W base args ds gs before hval0 hW hcnd hsz0 _
  have hsz : (DataW.weightsEach Try.prog (Try.f4.params.toList ++ Rows.fnExactNewConsoleSpec.plain.varTypes Try.prog) (ds ++ gs)).all (· ≤ reachBytes) = true := hsz0
  have hval : ∀ (j : Nat) t v, Try.f4.params[j]? = some t → args[j]? = some v → Value.okWide Try.prog W .any base t v := hval0
  have hW' := hW
  obtain ⟨p, q, hA0, hV, rfl, hfz, hnd⟩ := hW
  have hA : DataW.TrodAll enc Try.prog W 0 (fun _ => true) true Try.f4.params.toList args.toList ds p := hA0
  rw [Try.params4] at hA hval hsz
  obtain ⟨v0, vs0, d0, ds0, p0, q0, hargs, rfl, rfl, h0, r0⟩ := trodAll_cons hA
  obtain ⟨rfl, rfl, rfl⟩ := trodAll_nil r0
  obtain rfl : args = #[v0] := by cases args; simp_all
  obtain ⟨rfl, rfl⟩ := trodVars_none hV
  obtain ⟨cs0, rfl, _⟩ := okWide_struct Try.underlying43 (hval 0 43 v0 rfl rfl)
  have k0 := h0
  have lt0 : ∀ x ∈ p0, x.block < W.heap.size := by obtain ⟨m, hm⟩ := k0; exact DataW.trod_lt m _ _ _ hm
  obtain ⟨A0_0, c0_0, l0_0, A0_1, c0_1, l0_1, a0_2, e0, HR0_0, HC0_0, W0_0, HR0_1, HC0_1, W0_1, W0_2, _⟩ : ∃ (A0_0 : Option Addr) (c0_0 : Nat) (l0_0 : List (List Int)) (A0_1 : Option Addr) (c0_1 : Nat) (l0_1 : List S26) (a0_2 : Int), cs0 = #[.slice A0_0 l0_0.length c0_0, .slice A0_1 l0_1.length c0_1, .int .i64 a0_2] ∧ Kd.C (Kd.slice 5 (Kd.int .u8)) W A0_0 l0_0.length l0_0 ∧ l0_0.length ≤ c0_0 ∧ (l0_0.length ≤ maxLen ∧ ∀ z ∈ l0_0, (z.length ≤ maxLen ∧ ∀ z2 ∈ z, (Lit.int .u8 z2).wf = true)) ∧ Kd.C k26 W A0_1 l0_1.length l0_1 ∧ l0_1.length ≤ c0_1 ∧ (l0_1.length ≤ maxLen ∧ ∀ z ∈ l0_1, wf26 z) ∧ (Lit.int .i64 a0_2).wf = true ∧ True := by
    obtain ⟨fuel, hf⟩ := h0
    obtain ⟨A0_0, c0_0, l0_0, A0_1, c0_1, l0_1, a0_2, e_, r_⟩ := P.cells_43 hf
    refine ⟨A0_0, c0_0, l0_0, A0_1, c0_1, l0_1, a0_2, ?_, r_⟩
    exact Array.toList_inj.1 e_
  subst e0
  clear hA0 hval0 hsz0 hsz
  refine (P.FnExactNewConsole.call P.FnExactNewConsole.pure A0_0 c0_0 l0_0 A0_1 c0_1 l0_1 a0_2 W HR0_0 HC0_0 HR0_1 HC0_1 W0_0 W0_1 W0_2).mono fun e W' ⟨he, bel⟩ => ?_
  subst he
  exact ⟨_, rfl, _, _, _, [], _, [], hW', trodAll_mk1 (shut_bool Try.underlying4 _), (trodAll_cons_mk (Below.trod laidOut (by kernel_rfl) (of_decide_eq_true (by kernel_rfl)) k0 bel lt0) trodAll_mk0), rfl, bel.frame _, fun h => by cases h⟩

theorem cl1 : Try.pinned.checked.prog.funcNamed Rows.fnExactNewConsoleRow.func = some 4 := by kernel_rfl

theorem cl2 : joinedFacts Try.pinned.checked.prog 4 Try.f4 Rows.fnExactNewConsoleSpec Rows.fnExactNewConsoleRow = true := by kernel_rfl

theorem cl3 : Try.f4.isInstance Try.pinned.checked.prog Rows.fnExactNewConsoleRow.origin Rows.fnExactNewConsoleRow.targs := of_decide_eq_true (by kernel_rfl)

theorem cl4 : Try.f4.isWrapper Try.pinned.checked.prog Rows.fnExactNewConsoleRow.wrapper Rows.fnExactNewConsoleRow.mainSum := (by unfold Func.isWrapper; first | (rw [if_pos (by decide +kernel)]; kernel_rfl) | (rw [if_neg (by decide +kernel)]; exact ⟨rfl, rfl⟩))

theorem over : Rows.fnExactNewConsoleRow.holds Try.pinned (OpenSpec.ofChange Rows.fnExactNewConsoleSpec) :=
  OpenClaim.holds_of_wide 4 Try.f4 rfl rfl rfl rfl rfl rfl rfl ⟨rfl, rfl, rfl, rfl, rfl⟩ rfl rfl rfl rfl rfl cl1 Try.func4 cl2 cl3 cl4
    (fun os started H enc _ => lifted os started H enc)

theorem proved : Rows.FnExactNewConsoleSaid := over
#print axioms proved
end Go.Proofs.Ythlppjdlljofdaa.fnExactNewConsole
namespace Go.Proofs.Ythlppjdlljofdaa

/-- The row, under a short name, for the claim. -/
theorem fnExactNewConsole_holds : Rows.FnExactNewConsoleSaid := fnExactNewConsole.proved
end Go.Proofs.Ythlppjdlljofdaa
