/- This text proves the given statement of the law FnExactCrashLog: for every input the law returns true and its arguments read afterwards as before. Conditions: those of the given row and no other. -/
import Derived.Test.YtnjambhlblngcaaDoorCFnExactCrashLog1
import Derived.Test.YtnjambhlblngcaaDoorRows
import Derived.Test.YtnjambhlblngcaaDoorCards
import Derived.Test.YtnjambhlblngcaaDoorTie
import Derived.WalkKit
import Derived.ProofKit
import Derived.OpenShut
import Derived.ShutString
import Derived.ChangeOld
import Derived.Below
import Derived.SizedLaws
import Derived.Deep.DeepHandedRow
import Derived.Lib.LaidTab
namespace Go.Proofs.YtnjambhlblngcaaDoor.P
open Go.RowKit Go.Proofs.YtnjambhlblngcaaDoorW.PrintWords Go.Proofs.YtnjambhlblngcaaDoorW.PrintLast Go.Proofs.YtnjambhlblngcaaDoorW.PrintMore
attribute [local go_sem] max2_int min2_int max_two min_two max_three min_three max_four min_four   -- for this text's walks alone
set_option linter.unusedVariables false
set_option linter.unusedSimpArgs false

def laws_FnExactCrashLog.f (k : Nat) (a0_0 : ByteArray) (a0_1 : ByteArray) (a0_2 : Int) (a1 : Int) (a2 : Bool) : Option (Bool) := (laws_szLog.f a0_0 a0_1 a0_2 1048576).bind fun t301 => (if t301 < 0 then (some true) else ((laws_toLog.f a0_0 a0_1 a0_2).bind fun bt302 => ((spec_CrashLog.f k bt302.1 bt302.2.1 bt302.2.2 a1 a2).bind fun bt305 => ((laws_toLog.f a0_0 a0_1 a0_2).bind fun bt307 => ((impl_CrashLog.f k bt307.1 bt307.2.1 bt307.2.2 a1 a2).bind fun bt310 => (if bt310.1.toList = bt305.1.toList then (if (bt310.2 != bt305.2) = true then (some false) else (some true)) else (some false)))))))

set_option maxHeartbeats 8000000 in
set_option maxRecDepth 100000 in
theorem laws_FnExactCrashLog.calls (k : Nat) (a0_0 : ByteArray) (a0_1 : ByteArray) (a0_2 : Int) (a1 : Int) (a2 : Bool) (r : Bool) (w : World) (ht : TabOK w) (h : laws_FnExactCrashLog.f k a0_0 a0_1 a0_2 a1 a2 = some r) :
    Calls Tryd.prog 6 #[.agg #[.string a0_0, .string a0_1, .int .i64 a0_2], .int .i64 a1, .bool a2] w fun e w' => e = .returned (.bool r) ∧ Below w.heap.size w w' := by
  have hu36 := Tryd.underlying36
  have HT := Aside0.mk ht
  clear ht
  have HB := Aside0.mk (Below.refl w.heap.size w)
  have H : ((laws_szLog.f a0_0 a0_1 a0_2 1048576).bind fun t301 => (if t301 < 0 then (some true) else ((laws_toLog.f a0_0 a0_1 a0_2).bind fun bt302 => ((spec_CrashLog.f k bt302.1 bt302.2.1 bt302.2.2 a1 a2).bind fun bt305 => ((laws_toLog.f a0_0 a0_1 a0_2).bind fun bt307 => ((impl_CrashLog.f k bt307.1 bt307.2.1 bt307.2.2 a1 a2).bind fun bt310 => (if bt310.1.toList = bt305.1.toList then (if (bt310.2 != bt305.2) = true then (some false) else (some true)) else (some false)))))))) = some r := h
  clear h
  replace H := Option.bind_eq_some_iff.mp H
  obtain ⟨t301, A40, H⟩ := H
  replace H : (if t301 < 0 then (some true) else ((laws_toLog.f a0_0 a0_1 a0_2).bind fun bt302 => ((spec_CrashLog.f k bt302.1 bt302.2.1 bt302.2.2 a1 a2).bind fun bt305 => ((laws_toLog.f a0_0 a0_1 a0_2).bind fun bt307 => ((impl_CrashLog.f k bt307.1 bt307.2.1 bt307.2.2 a1 a2).bind fun bt310 => (if bt310.1.toList = bt305.1.toList then (if (bt310.2 != bt305.2) = true then (some false) else (some true)) else (some false))))))) = some r := H
  have A4 := Aside0.mk A40
  clear A40
  by_cases c5 : t301 < 0
  · rw [if_pos c5] at H
    have c5b0 : decide (t301 < 0) = true := decide_eq_true c5
    clear c5
    obtain rfl := Option.some.inj H
    go_enter Tryd.func6, Tryd.ntmps6
    go_wp2_with (first | ((with_reducible refine gate_dst (N := 3) rfl ?_); refine box_event ?hg (N := 3) ?hd (cs := #[.string a0_0, .string a0_1, .int .i64 a0_2]) (t := 36) ?hr ?_; (case hd => rfl); (case hg => rfl); (case hr => first | (go_simp; done) | (go_simp; rfl)); intro gb300 hg w6 hbox hb; have n0_ := Aside0.mk (below_step (by repeat (first | (with_reducible first | exact HB.out | apply below_alloc | apply pw_below_drewN | apply below_drew1) | exact HB.out)) hb); have n1_ := Aside0.mk (hbox); have n2_ := Aside0.mk ((by rw [hg]; exact (below_size (by repeat (first | (with_reducible first | exact HB.out | apply below_alloc | apply pw_below_drewN | apply below_drew1) | exact HB.out))) : w.heap.size ≤ gb300)); have n3_ := Aside0.mk ((by rw [hg]; exact (below_size (by repeat (first | (with_reducible first | exact HB.out | apply below_alloc | apply pw_below_drewN | apply below_drew1) | exact HB.out))) : w.heap.size ≤ gb300)); clear HB; have HB := n0_; have BK300 := n1_; have GW300 := n2_; have GE300 := n3_; clear n0_ n1_ n2_ n3_; clear hb hbox hg; have hcz7_0 : w6.cell? ⟨gb300, 0, none⟩ = some (.string a0_0) := (blk_cell BK300.out 0).trans rfl; have hcz7_1 : w6.cell? ⟨gb300, 1, none⟩ = some (.string a0_1) := (blk_cell BK300.out 1).trans rfl; have hcz7_2 : w6.cell? ⟨gb300, 2, none⟩ = some (.int .i64 a0_2) := (blk_cell BK300.out 2).trans rfl; have hfz7_0 := blk_frozen BK300.out 0; have hfz7_1 := blk_frozen BK300.out 1; have hfz7_2 := blk_frozen BK300.out 2) | ((with_reducible refine gate_callee (f := 17) rfl ?_); refine goesL_ (some 14) rfl rfl Tryd.func17 (by kernel_rfl) rfl #[.agg #[.string a0_0, .string a0_1, .int .i64 a0_2], .int .i64 1048576] rfl (by (try simp only [List.map_toArray, List.map_cons, List.map_nil]); first | done | rfl | (simp only [List.length_drop, List.length_take]; rfl)) ?_; (with_reducible refine (laws_szLog.calls a0_0 a0_1 a0_2 1048576 t301 _ A4.out).mono ?_); rintro e w8 ⟨rfl, hb⟩; refine ⟨_, rfl, ?_⟩; have n0_ := Aside0.mk (blk_below (g := gb300) (o := .cells #[.string a0_0, .string a0_1, .int .i64 a0_2] 36 (0, 0)) (by (with_reducible repeat (first | refine blk_drewN ?_ _ | refine blk_drew ?_ | refine blk_alloc ?_ _)); exact BK300.out) hb); have n1_ := Aside0.mk (below_step (by repeat (first | (with_reducible first | exact HB.out | apply below_alloc | apply pw_below_drewN | apply below_drew1 | refine below_set ?_ GE300.out) | exact HB.out)) hb); clear BK300; clear HB; have BK300 := n0_; have HB := n1_; clear n0_ n1_; (try clear hb); (try clear hb2); (try clear hk); (try clear hi)))
    go_ret
    exact ⟨by first | rfl | (simp [errW_none, errW_some] <;> rfl) | (simp [*, errW_none, errW_some] <;> rfl), by repeat (first | (with_reducible first | exact HB.out | apply below_alloc | apply pw_below_drewN | apply below_drew1 | refine below_set ?_ GE300.out) | exact HB.out)⟩
  · rw [if_neg c5] at H
    have c5b0 : decide (t301 < 0) = false := decide_eq_false c5
    clear c5
    replace H := Option.bind_eq_some_iff.mp H
    obtain ⟨⟨t302, t303, t304⟩, A90, H⟩ := H
    replace H : ((spec_CrashLog.f k t302 t303 t304 a1 a2).bind fun bt305 => ((laws_toLog.f a0_0 a0_1 a0_2).bind fun bt307 => ((impl_CrashLog.f k bt307.1 bt307.2.1 bt307.2.2 a1 a2).bind fun bt310 => (if bt310.1.toList = bt305.1.toList then (if (bt310.2 != bt305.2) = true then (some false) else (some true)) else (some false))))) = some r := H
    have A9 := Aside0.mk A90
    clear A90
    replace H := Option.bind_eq_some_iff.mp H
    obtain ⟨⟨t305, t306⟩, A100, H⟩ := H
    replace H : ((laws_toLog.f a0_0 a0_1 a0_2).bind fun bt307 => ((impl_CrashLog.f k bt307.1 bt307.2.1 bt307.2.2 a1 a2).bind fun bt310 => (if bt310.1.toList = t305.toList then (if (bt310.2 != t306) = true then (some false) else (some true)) else (some false)))) = some r := H
    have A10 := Aside0.mk A100
    clear A100
    replace H := Option.bind_eq_some_iff.mp H
    obtain ⟨⟨t307, t308, t309⟩, A110, H⟩ := H
    replace H : ((impl_CrashLog.f k t307 t308 t309 a1 a2).bind fun bt310 => (if bt310.1.toList = t305.toList then (if (bt310.2 != t306) = true then (some false) else (some true)) else (some false))) = some r := H
    have A11 := Aside0.mk A110
    clear A110
    replace H := Option.bind_eq_some_iff.mp H
    obtain ⟨⟨t310, t311⟩, A120, H⟩ := H
    replace H : (if t310.toList = t305.toList then (if (t311 != t306) = true then (some false) else (some true)) else (some false)) = some r := H
    have A12 := Aside0.mk A120
    clear A120
    by_cases c13 : t310.toList = t305.toList
    · rw [if_pos c13] at H
      have c13b0 : (t310.toList == t305.toList) = true := beq_iff_eq.mpr c13
      have c13b1 : (t310.toList != t305.toList) = false := bne_eq_false_iff_eq.mpr c13
      clear c13
      by_cases c14 : (t311 != t306) = true
      · rw [if_pos c14] at H
        have c14b0 : (t311 != t306) = true := c14
        (try (have c14b1 : decide (t311 = t306) = false := by simpa using c14))
        (try (have c14b2 : (t311 == t306) = false := by simpa using c14))
        (try (have c14b3 : ¬ (t311 = t306) := by simpa using c14))
        clear c14
        obtain rfl := Option.some.inj H
        go_enter Tryd.func6, Tryd.ntmps6
        go_wp2_with (first | ((with_reducible refine gate_dst (N := 3) rfl ?_); refine box_event ?hg (N := 3) ?hd (cs := #[.string a0_0, .string a0_1, .int .i64 a0_2]) (t := 36) ?hr ?_; (case hd => rfl); (case hg => rfl); (case hr => first | (go_simp; done) | (go_simp; rfl)); intro gb300 hg w15 hbox hb; have n0_ := Aside0.mk (below_step (by repeat (first | (with_reducible first | exact HB.out | apply below_alloc | apply pw_below_drewN | apply below_drew1) | exact HB.out)) hb); have n1_ := Aside0.mk (hbox); have n2_ := Aside0.mk ((by rw [hg]; exact (below_size (by repeat (first | (with_reducible first | exact HB.out | apply below_alloc | apply pw_below_drewN | apply below_drew1) | exact HB.out))) : w.heap.size ≤ gb300)); have n3_ := Aside0.mk ((by rw [hg]; exact (below_size (by repeat (first | (with_reducible first | exact HB.out | apply below_alloc | apply pw_below_drewN | apply below_drew1) | exact HB.out))) : w.heap.size ≤ gb300)); clear HB; have HB := n0_; have BK300 := n1_; have GW300 := n2_; have GE300 := n3_; clear n0_ n1_ n2_ n3_; clear hb hbox hg; have hcz16_0 : w15.cell? ⟨gb300, 0, none⟩ = some (.string a0_0) := (blk_cell BK300.out 0).trans rfl; have hcz16_1 : w15.cell? ⟨gb300, 1, none⟩ = some (.string a0_1) := (blk_cell BK300.out 1).trans rfl; have hcz16_2 : w15.cell? ⟨gb300, 2, none⟩ = some (.int .i64 a0_2) := (blk_cell BK300.out 2).trans rfl; have hfz16_0 := blk_frozen BK300.out 0; have hfz16_1 := blk_frozen BK300.out 1; have hfz16_2 := blk_frozen BK300.out 2) | ((with_reducible refine gate_callee (f := 17) rfl ?_); refine goesL_ (some 14) rfl rfl Tryd.func17 (by kernel_rfl) rfl #[.agg #[.string a0_0, .string a0_1, .int .i64 a0_2], .int .i64 1048576] rfl (by (try simp only [List.map_toArray, List.map_cons, List.map_nil]); first | done | rfl | (simp only [List.length_drop, List.length_take]; rfl)) ?_; (with_reducible refine (laws_szLog.calls a0_0 a0_1 a0_2 1048576 t301 _ A4.out).mono ?_); rintro e w17 ⟨rfl, hb⟩; refine ⟨_, rfl, ?_⟩; have n0_ := Aside0.mk (blk_below (g := gb300) (o := .cells #[.string a0_0, .string a0_1, .int .i64 a0_2] 36 (0, 0)) (by (with_reducible repeat (first | refine blk_drewN ?_ _ | refine blk_drew ?_ | refine blk_alloc ?_ _)); exact BK300.out) hb); have n1_ := Aside0.mk (below_step (by repeat (first | (with_reducible first | exact HB.out | apply below_alloc | apply pw_below_drewN | apply below_drew1 | refine below_set ?_ GE300.out) | exact HB.out)) hb); clear BK300; clear HB; have BK300 := n0_; have HB := n1_; clear n0_ n1_; (try clear hb); (try clear hb2); (try clear hk); (try clear hi); have hcz18_0 : w17.cell? ⟨gb300, 0, none⟩ = some (.string a0_0) := (blk_cell BK300.out 0).trans rfl; have hcz18_1 : w17.cell? ⟨gb300, 1, none⟩ = some (.string a0_1) := (blk_cell BK300.out 1).trans rfl; have hcz18_2 : w17.cell? ⟨gb300, 2, none⟩ = some (.int .i64 a0_2) := (blk_cell BK300.out 2).trans rfl; have hfz18_0 := blk_frozen BK300.out 0; have hfz18_1 := blk_frozen BK300.out 1; have hfz18_2 := blk_frozen BK300.out 2) | ((with_reducible refine gate_callee (f := 19) rfl ?_); refine goesL_ (some 19) rfl rfl Tryd.func19 (by kernel_rfl) rfl #[.agg #[.string a0_0, .string a0_1, .int .i64 a0_2]] rfl (by (try simp only [List.map_toArray, List.map_cons, List.map_nil]); first | done | rfl | (simp only [List.length_drop, List.length_take]; rfl)) ?_; (with_reducible refine (laws_toLog.calls a0_0 a0_1 a0_2 t302 t303 t304 _ A9.out).mono ?_); rintro e w19 ⟨rfl, hb⟩; refine ⟨_, rfl, ?_⟩; have n0_ := Aside0.mk (blk_below (g := gb300) (o := .cells #[.string a0_0, .string a0_1, .int .i64 a0_2] 36 (0, 0)) (by (with_reducible repeat (first | refine blk_drewN ?_ _ | refine blk_drew ?_ | refine blk_alloc ?_ _)); exact BK300.out) hb); have n1_ := Aside0.mk (below_step (by repeat (first | (with_reducible first | exact HB.out | apply below_alloc | apply pw_below_drewN | apply below_drew1 | refine below_set ?_ GE300.out) | exact HB.out)) hb); clear BK300; clear HB; have BK300 := n0_; have HB := n1_; clear n0_ n1_; (try clear hb); (try clear hb2); (try clear hk); (try clear hi)) | ((with_reducible refine gate_callee (f := 21) rfl ?_); refine goesL_ (some 22) rfl rfl Tryd.func21 (by kernel_rfl) rfl #[.agg #[.string t302, .string t303, .int .i64 t304], .int .i64 a1, .bool a2] rfl (by (try simp only [List.map_toArray, List.map_cons, List.map_nil]); first | done | rfl | (simp only [List.length_drop, List.length_take]; rfl)) ?_; (with_reducible refine (spec_CrashLog.calls k t302 t303 t304 a1 a2 t305 t306 _ A10.out).mono ?_); rintro e w20 ⟨rfl, hb⟩; refine ⟨_, rfl, ?_⟩; have n0_ := Aside0.mk (blk_below (g := gb300) (o := .cells #[.string a0_0, .string a0_1, .int .i64 a0_2] 36 (0, 0)) (by (with_reducible repeat (first | refine blk_drewN ?_ _ | refine blk_drew ?_ | refine blk_alloc ?_ _)); exact BK300.out) hb); have n1_ := Aside0.mk (below_step (by repeat (first | (with_reducible first | exact HB.out | apply below_alloc | apply pw_below_drewN | apply below_drew1 | refine below_set ?_ GE300.out) | exact HB.out)) hb); clear BK300; clear HB; have BK300 := n0_; have HB := n1_; clear n0_ n1_; (try clear hb); (try clear hb2); (try clear hk); (try clear hi); have hcz21_0 : w20.cell? ⟨gb300, 0, none⟩ = some (.string a0_0) := (blk_cell BK300.out 0).trans rfl; have hcz21_1 : w20.cell? ⟨gb300, 1, none⟩ = some (.string a0_1) := (blk_cell BK300.out 1).trans rfl; have hcz21_2 : w20.cell? ⟨gb300, 2, none⟩ = some (.int .i64 a0_2) := (blk_cell BK300.out 2).trans rfl; have hfz21_0 := blk_frozen BK300.out 0; have hfz21_1 := blk_frozen BK300.out 1; have hfz21_2 := blk_frozen BK300.out 2) | ((with_reducible refine gate_callee (f := 19) rfl ?_); refine goesL_ (some 27) rfl rfl Tryd.func19 (by kernel_rfl) rfl #[.agg #[.string a0_0, .string a0_1, .int .i64 a0_2]] rfl (by (try simp only [List.map_toArray, List.map_cons, List.map_nil]); first | done | rfl | (simp only [List.length_drop, List.length_take]; rfl)) ?_; (with_reducible refine (laws_toLog.calls a0_0 a0_1 a0_2 t307 t308 t309 _ A11.out).mono ?_); rintro e w22 ⟨rfl, hb⟩; refine ⟨_, rfl, ?_⟩; have n0_ := Aside0.mk (blk_below (g := gb300) (o := .cells #[.string a0_0, .string a0_1, .int .i64 a0_2] 36 (0, 0)) (by (with_reducible repeat (first | refine blk_drewN ?_ _ | refine blk_drew ?_ | refine blk_alloc ?_ _)); exact BK300.out) hb); have n1_ := Aside0.mk (below_step (by repeat (first | (with_reducible first | exact HB.out | apply below_alloc | apply pw_below_drewN | apply below_drew1 | refine below_set ?_ GE300.out) | exact HB.out)) hb); clear BK300; clear HB; have BK300 := n0_; have HB := n1_; clear n0_ n1_; (try clear hb); (try clear hb2); (try clear hk); (try clear hi)) | ((with_reducible refine gate_callee (f := 22) rfl ?_); refine goesL_ (some 30) rfl rfl Tryd.func22 (by kernel_rfl) rfl #[.agg #[.string t307, .string t308, .int .i64 t309], .int .i64 a1, .bool a2] rfl (by (try simp only [List.map_toArray, List.map_cons, List.map_nil]); first | done | rfl | (simp only [List.length_drop, List.length_take]; rfl)) ?_; (with_reducible refine (impl_CrashLog.calls k t307 t308 t309 a1 a2 t310 t311 _ ?side1 A12.out).mono ?_); (case side1 => exact TabOK.below HT.out (by repeat (first | (with_reducible first | exact HB.out | apply below_alloc | apply pw_below_drewN | apply below_drew1 | refine below_set ?_ GE300.out) | exact HB.out))); rintro e w23 ⟨rfl, hb⟩; refine ⟨_, rfl, ?_⟩; have n0_ := Aside0.mk (blk_below (g := gb300) (o := .cells #[.string a0_0, .string a0_1, .int .i64 a0_2] 36 (0, 0)) (by (with_reducible repeat (first | refine blk_drewN ?_ _ | refine blk_drew ?_ | refine blk_alloc ?_ _)); exact BK300.out) hb); have n1_ := Aside0.mk (below_step (by repeat (first | (with_reducible first | exact HB.out | apply below_alloc | apply pw_below_drewN | apply below_drew1 | refine below_set ?_ GE300.out) | exact HB.out)) hb); clear BK300; clear HB; have BK300 := n0_; have HB := n1_; clear n0_ n1_; (try clear hb); (try clear hb2); (try clear hk); (try clear hi)))
        go_ret
        exact ⟨by first | rfl | (simp [errW_none, errW_some] <;> rfl) | (simp [*, errW_none, errW_some] <;> rfl), by repeat (first | (with_reducible first | exact HB.out | apply below_alloc | apply pw_below_drewN | apply below_drew1 | refine below_set ?_ GE300.out) | exact HB.out)⟩
      · rw [if_neg c14] at H
        have c14b0 : (t311 != t306) = false := by simpa using c14
        (try (have c14b1 : decide (t311 = t306) = true := by simpa using c14))
        (try (have c14b2 : (t311 == t306) = true := by simpa using c14))
        clear c14
        obtain rfl := Option.some.inj H
        go_enter Tryd.func6, Tryd.ntmps6
        go_wp2_with (first | ((with_reducible refine gate_dst (N := 3) rfl ?_); refine box_event ?hg (N := 3) ?hd (cs := #[.string a0_0, .string a0_1, .int .i64 a0_2]) (t := 36) ?hr ?_; (case hd => rfl); (case hg => rfl); (case hr => first | (go_simp; done) | (go_simp; rfl)); intro gb300 hg w24 hbox hb; have n0_ := Aside0.mk (below_step (by repeat (first | (with_reducible first | exact HB.out | apply below_alloc | apply pw_below_drewN | apply below_drew1) | exact HB.out)) hb); have n1_ := Aside0.mk (hbox); have n2_ := Aside0.mk ((by rw [hg]; exact (below_size (by repeat (first | (with_reducible first | exact HB.out | apply below_alloc | apply pw_below_drewN | apply below_drew1) | exact HB.out))) : w.heap.size ≤ gb300)); have n3_ := Aside0.mk ((by rw [hg]; exact (below_size (by repeat (first | (with_reducible first | exact HB.out | apply below_alloc | apply pw_below_drewN | apply below_drew1) | exact HB.out))) : w.heap.size ≤ gb300)); clear HB; have HB := n0_; have BK300 := n1_; have GW300 := n2_; have GE300 := n3_; clear n0_ n1_ n2_ n3_; clear hb hbox hg; have hcz25_0 : w24.cell? ⟨gb300, 0, none⟩ = some (.string a0_0) := (blk_cell BK300.out 0).trans rfl; have hcz25_1 : w24.cell? ⟨gb300, 1, none⟩ = some (.string a0_1) := (blk_cell BK300.out 1).trans rfl; have hcz25_2 : w24.cell? ⟨gb300, 2, none⟩ = some (.int .i64 a0_2) := (blk_cell BK300.out 2).trans rfl; have hfz25_0 := blk_frozen BK300.out 0; have hfz25_1 := blk_frozen BK300.out 1; have hfz25_2 := blk_frozen BK300.out 2) | ((with_reducible refine gate_callee (f := 17) rfl ?_); refine goesL_ (some 14) rfl rfl Tryd.func17 (by kernel_rfl) rfl #[.agg #[.string a0_0, .string a0_1, .int .i64 a0_2], .int .i64 1048576] rfl (by (try simp only [List.map_toArray, List.map_cons, List.map_nil]); first | done | rfl | (simp only [List.length_drop, List.length_take]; rfl)) ?_; (with_reducible refine (laws_szLog.calls a0_0 a0_1 a0_2 1048576 t301 _ A4.out).mono ?_); rintro e w26 ⟨rfl, hb⟩; refine ⟨_, rfl, ?_⟩; have n0_ := Aside0.mk (blk_below (g := gb300) (o := .cells #[.string a0_0, .string a0_1, .int .i64 a0_2] 36 (0, 0)) (by (with_reducible repeat (first | refine blk_drewN ?_ _ | refine blk_drew ?_ | refine blk_alloc ?_ _)); exact BK300.out) hb); have n1_ := Aside0.mk (below_step (by repeat (first | (with_reducible first | exact HB.out | apply below_alloc | apply pw_below_drewN | apply below_drew1 | refine below_set ?_ GE300.out) | exact HB.out)) hb); clear BK300; clear HB; have BK300 := n0_; have HB := n1_; clear n0_ n1_; (try clear hb); (try clear hb2); (try clear hk); (try clear hi); have hcz27_0 : w26.cell? ⟨gb300, 0, none⟩ = some (.string a0_0) := (blk_cell BK300.out 0).trans rfl; have hcz27_1 : w26.cell? ⟨gb300, 1, none⟩ = some (.string a0_1) := (blk_cell BK300.out 1).trans rfl; have hcz27_2 : w26.cell? ⟨gb300, 2, none⟩ = some (.int .i64 a0_2) := (blk_cell BK300.out 2).trans rfl; have hfz27_0 := blk_frozen BK300.out 0; have hfz27_1 := blk_frozen BK300.out 1; have hfz27_2 := blk_frozen BK300.out 2) | ((with_reducible refine gate_callee (f := 19) rfl ?_); refine goesL_ (some 19) rfl rfl Tryd.func19 (by kernel_rfl) rfl #[.agg #[.string a0_0, .string a0_1, .int .i64 a0_2]] rfl (by (try simp only [List.map_toArray, List.map_cons, List.map_nil]); first | done | rfl | (simp only [List.length_drop, List.length_take]; rfl)) ?_; (with_reducible refine (laws_toLog.calls a0_0 a0_1 a0_2 t302 t303 t304 _ A9.out).mono ?_); rintro e w28 ⟨rfl, hb⟩; refine ⟨_, rfl, ?_⟩; have n0_ := Aside0.mk (blk_below (g := gb300) (o := .cells #[.string a0_0, .string a0_1, .int .i64 a0_2] 36 (0, 0)) (by (with_reducible repeat (first | refine blk_drewN ?_ _ | refine blk_drew ?_ | refine blk_alloc ?_ _)); exact BK300.out) hb); have n1_ := Aside0.mk (below_step (by repeat (first | (with_reducible first | exact HB.out | apply below_alloc | apply pw_below_drewN | apply below_drew1 | refine below_set ?_ GE300.out) | exact HB.out)) hb); clear BK300; clear HB; have BK300 := n0_; have HB := n1_; clear n0_ n1_; (try clear hb); (try clear hb2); (try clear hk); (try clear hi)) | ((with_reducible refine gate_callee (f := 21) rfl ?_); refine goesL_ (some 22) rfl rfl Tryd.func21 (by kernel_rfl) rfl #[.agg #[.string t302, .string t303, .int .i64 t304], .int .i64 a1, .bool a2] rfl (by (try simp only [List.map_toArray, List.map_cons, List.map_nil]); first | done | rfl | (simp only [List.length_drop, List.length_take]; rfl)) ?_; (with_reducible refine (spec_CrashLog.calls k t302 t303 t304 a1 a2 t305 t306 _ A10.out).mono ?_); rintro e w29 ⟨rfl, hb⟩; refine ⟨_, rfl, ?_⟩; have n0_ := Aside0.mk (blk_below (g := gb300) (o := .cells #[.string a0_0, .string a0_1, .int .i64 a0_2] 36 (0, 0)) (by (with_reducible repeat (first | refine blk_drewN ?_ _ | refine blk_drew ?_ | refine blk_alloc ?_ _)); exact BK300.out) hb); have n1_ := Aside0.mk (below_step (by repeat (first | (with_reducible first | exact HB.out | apply below_alloc | apply pw_below_drewN | apply below_drew1 | refine below_set ?_ GE300.out) | exact HB.out)) hb); clear BK300; clear HB; have BK300 := n0_; have HB := n1_; clear n0_ n1_; (try clear hb); (try clear hb2); (try clear hk); (try clear hi); have hcz30_0 : w29.cell? ⟨gb300, 0, none⟩ = some (.string a0_0) := (blk_cell BK300.out 0).trans rfl; have hcz30_1 : w29.cell? ⟨gb300, 1, none⟩ = some (.string a0_1) := (blk_cell BK300.out 1).trans rfl; have hcz30_2 : w29.cell? ⟨gb300, 2, none⟩ = some (.int .i64 a0_2) := (blk_cell BK300.out 2).trans rfl; have hfz30_0 := blk_frozen BK300.out 0; have hfz30_1 := blk_frozen BK300.out 1; have hfz30_2 := blk_frozen BK300.out 2) | ((with_reducible refine gate_callee (f := 19) rfl ?_); refine goesL_ (some 27) rfl rfl Tryd.func19 (by kernel_rfl) rfl #[.agg #[.string a0_0, .string a0_1, .int .i64 a0_2]] rfl (by (try simp only [List.map_toArray, List.map_cons, List.map_nil]); first | done | rfl | (simp only [List.length_drop, List.length_take]; rfl)) ?_; (with_reducible refine (laws_toLog.calls a0_0 a0_1 a0_2 t307 t308 t309 _ A11.out).mono ?_); rintro e w31 ⟨rfl, hb⟩; refine ⟨_, rfl, ?_⟩; have n0_ := Aside0.mk (blk_below (g := gb300) (o := .cells #[.string a0_0, .string a0_1, .int .i64 a0_2] 36 (0, 0)) (by (with_reducible repeat (first | refine blk_drewN ?_ _ | refine blk_drew ?_ | refine blk_alloc ?_ _)); exact BK300.out) hb); have n1_ := Aside0.mk (below_step (by repeat (first | (with_reducible first | exact HB.out | apply below_alloc | apply pw_below_drewN | apply below_drew1 | refine below_set ?_ GE300.out) | exact HB.out)) hb); clear BK300; clear HB; have BK300 := n0_; have HB := n1_; clear n0_ n1_; (try clear hb); (try clear hb2); (try clear hk); (try clear hi)) | ((with_reducible refine gate_callee (f := 22) rfl ?_); refine goesL_ (some 30) rfl rfl Tryd.func22 (by kernel_rfl) rfl #[.agg #[.string t307, .string t308, .int .i64 t309], .int .i64 a1, .bool a2] rfl (by (try simp only [List.map_toArray, List.map_cons, List.map_nil]); first | done | rfl | (simp only [List.length_drop, List.length_take]; rfl)) ?_; (with_reducible refine (impl_CrashLog.calls k t307 t308 t309 a1 a2 t310 t311 _ ?side1 A12.out).mono ?_); (case side1 => exact TabOK.below HT.out (by repeat (first | (with_reducible first | exact HB.out | apply below_alloc | apply pw_below_drewN | apply below_drew1 | refine below_set ?_ GE300.out) | exact HB.out))); rintro e w32 ⟨rfl, hb⟩; refine ⟨_, rfl, ?_⟩; have n0_ := Aside0.mk (blk_below (g := gb300) (o := .cells #[.string a0_0, .string a0_1, .int .i64 a0_2] 36 (0, 0)) (by (with_reducible repeat (first | refine blk_drewN ?_ _ | refine blk_drew ?_ | refine blk_alloc ?_ _)); exact BK300.out) hb); have n1_ := Aside0.mk (below_step (by repeat (first | (with_reducible first | exact HB.out | apply below_alloc | apply pw_below_drewN | apply below_drew1 | refine below_set ?_ GE300.out) | exact HB.out)) hb); clear BK300; clear HB; have BK300 := n0_; have HB := n1_; clear n0_ n1_; (try clear hb); (try clear hb2); (try clear hk); (try clear hi)))
        go_ret
        exact ⟨by first | rfl | (simp [errW_none, errW_some] <;> rfl) | (simp [*, errW_none, errW_some] <;> rfl), by repeat (first | (with_reducible first | exact HB.out | apply below_alloc | apply pw_below_drewN | apply below_drew1 | refine below_set ?_ GE300.out) | exact HB.out)⟩
    · rw [if_neg c13] at H
      have c13b0 : (t310.toList == t305.toList) = false := beq_eq_false_iff_ne.mpr c13
      have c13b1 : (t310.toList != t305.toList) = true := bne_iff_ne.mpr c13
      obtain rfl := Option.some.inj H
      go_enter Tryd.func6, Tryd.ntmps6
      go_wp2_with (first | ((with_reducible refine gate_dst (N := 3) rfl ?_); refine box_event ?hg (N := 3) ?hd (cs := #[.string a0_0, .string a0_1, .int .i64 a0_2]) (t := 36) ?hr ?_; (case hd => rfl); (case hg => rfl); (case hr => first | (go_simp; done) | (go_simp; rfl)); intro gb300 hg w33 hbox hb; have n0_ := Aside0.mk (below_step (by repeat (first | (with_reducible first | exact HB.out | apply below_alloc | apply pw_below_drewN | apply below_drew1) | exact HB.out)) hb); have n1_ := Aside0.mk (hbox); have n2_ := Aside0.mk ((by rw [hg]; exact (below_size (by repeat (first | (with_reducible first | exact HB.out | apply below_alloc | apply pw_below_drewN | apply below_drew1) | exact HB.out))) : w.heap.size ≤ gb300)); have n3_ := Aside0.mk ((by rw [hg]; exact (below_size (by repeat (first | (with_reducible first | exact HB.out | apply below_alloc | apply pw_below_drewN | apply below_drew1) | exact HB.out))) : w.heap.size ≤ gb300)); clear HB; have HB := n0_; have BK300 := n1_; have GW300 := n2_; have GE300 := n3_; clear n0_ n1_ n2_ n3_; clear hb hbox hg; have hcz34_0 : w33.cell? ⟨gb300, 0, none⟩ = some (.string a0_0) := (blk_cell BK300.out 0).trans rfl; have hcz34_1 : w33.cell? ⟨gb300, 1, none⟩ = some (.string a0_1) := (blk_cell BK300.out 1).trans rfl; have hcz34_2 : w33.cell? ⟨gb300, 2, none⟩ = some (.int .i64 a0_2) := (blk_cell BK300.out 2).trans rfl; have hfz34_0 := blk_frozen BK300.out 0; have hfz34_1 := blk_frozen BK300.out 1; have hfz34_2 := blk_frozen BK300.out 2) | ((with_reducible refine gate_callee (f := 17) rfl ?_); refine goesL_ (some 14) rfl rfl Tryd.func17 (by kernel_rfl) rfl #[.agg #[.string a0_0, .string a0_1, .int .i64 a0_2], .int .i64 1048576] rfl (by (try simp only [List.map_toArray, List.map_cons, List.map_nil]); first | done | rfl | (simp only [List.length_drop, List.length_take]; rfl)) ?_; (with_reducible refine (laws_szLog.calls a0_0 a0_1 a0_2 1048576 t301 _ A4.out).mono ?_); rintro e w35 ⟨rfl, hb⟩; refine ⟨_, rfl, ?_⟩; have n0_ := Aside0.mk (blk_below (g := gb300) (o := .cells #[.string a0_0, .string a0_1, .int .i64 a0_2] 36 (0, 0)) (by (with_reducible repeat (first | refine blk_drewN ?_ _ | refine blk_drew ?_ | refine blk_alloc ?_ _)); exact BK300.out) hb); have n1_ := Aside0.mk (below_step (by repeat (first | (with_reducible first | exact HB.out | apply below_alloc | apply pw_below_drewN | apply below_drew1 | refine below_set ?_ GE300.out) | exact HB.out)) hb); clear BK300; clear HB; have BK300 := n0_; have HB := n1_; clear n0_ n1_; (try clear hb); (try clear hb2); (try clear hk); (try clear hi); have hcz36_0 : w35.cell? ⟨gb300, 0, none⟩ = some (.string a0_0) := (blk_cell BK300.out 0).trans rfl; have hcz36_1 : w35.cell? ⟨gb300, 1, none⟩ = some (.string a0_1) := (blk_cell BK300.out 1).trans rfl; have hcz36_2 : w35.cell? ⟨gb300, 2, none⟩ = some (.int .i64 a0_2) := (blk_cell BK300.out 2).trans rfl; have hfz36_0 := blk_frozen BK300.out 0; have hfz36_1 := blk_frozen BK300.out 1; have hfz36_2 := blk_frozen BK300.out 2) | ((with_reducible refine gate_callee (f := 19) rfl ?_); refine goesL_ (some 19) rfl rfl Tryd.func19 (by kernel_rfl) rfl #[.agg #[.string a0_0, .string a0_1, .int .i64 a0_2]] rfl (by (try simp only [List.map_toArray, List.map_cons, List.map_nil]); first | done | rfl | (simp only [List.length_drop, List.length_take]; rfl)) ?_; (with_reducible refine (laws_toLog.calls a0_0 a0_1 a0_2 t302 t303 t304 _ A9.out).mono ?_); rintro e w37 ⟨rfl, hb⟩; refine ⟨_, rfl, ?_⟩; have n0_ := Aside0.mk (blk_below (g := gb300) (o := .cells #[.string a0_0, .string a0_1, .int .i64 a0_2] 36 (0, 0)) (by (with_reducible repeat (first | refine blk_drewN ?_ _ | refine blk_drew ?_ | refine blk_alloc ?_ _)); exact BK300.out) hb); have n1_ := Aside0.mk (below_step (by repeat (first | (with_reducible first | exact HB.out | apply below_alloc | apply pw_below_drewN | apply below_drew1 | refine below_set ?_ GE300.out) | exact HB.out)) hb); clear BK300; clear HB; have BK300 := n0_; have HB := n1_; clear n0_ n1_; (try clear hb); (try clear hb2); (try clear hk); (try clear hi)) | ((with_reducible refine gate_callee (f := 21) rfl ?_); refine goesL_ (some 22) rfl rfl Tryd.func21 (by kernel_rfl) rfl #[.agg #[.string t302, .string t303, .int .i64 t304], .int .i64 a1, .bool a2] rfl (by (try simp only [List.map_toArray, List.map_cons, List.map_nil]); first | done | rfl | (simp only [List.length_drop, List.length_take]; rfl)) ?_; (with_reducible refine (spec_CrashLog.calls k t302 t303 t304 a1 a2 t305 t306 _ A10.out).mono ?_); rintro e w38 ⟨rfl, hb⟩; refine ⟨_, rfl, ?_⟩; have n0_ := Aside0.mk (blk_below (g := gb300) (o := .cells #[.string a0_0, .string a0_1, .int .i64 a0_2] 36 (0, 0)) (by (with_reducible repeat (first | refine blk_drewN ?_ _ | refine blk_drew ?_ | refine blk_alloc ?_ _)); exact BK300.out) hb); have n1_ := Aside0.mk (below_step (by repeat (first | (with_reducible first | exact HB.out | apply below_alloc | apply pw_below_drewN | apply below_drew1 | refine below_set ?_ GE300.out) | exact HB.out)) hb); clear BK300; clear HB; have BK300 := n0_; have HB := n1_; clear n0_ n1_; (try clear hb); (try clear hb2); (try clear hk); (try clear hi); have hcz39_0 : w38.cell? ⟨gb300, 0, none⟩ = some (.string a0_0) := (blk_cell BK300.out 0).trans rfl; have hcz39_1 : w38.cell? ⟨gb300, 1, none⟩ = some (.string a0_1) := (blk_cell BK300.out 1).trans rfl; have hcz39_2 : w38.cell? ⟨gb300, 2, none⟩ = some (.int .i64 a0_2) := (blk_cell BK300.out 2).trans rfl; have hfz39_0 := blk_frozen BK300.out 0; have hfz39_1 := blk_frozen BK300.out 1; have hfz39_2 := blk_frozen BK300.out 2) | ((with_reducible refine gate_callee (f := 19) rfl ?_); refine goesL_ (some 27) rfl rfl Tryd.func19 (by kernel_rfl) rfl #[.agg #[.string a0_0, .string a0_1, .int .i64 a0_2]] rfl (by (try simp only [List.map_toArray, List.map_cons, List.map_nil]); first | done | rfl | (simp only [List.length_drop, List.length_take]; rfl)) ?_; (with_reducible refine (laws_toLog.calls a0_0 a0_1 a0_2 t307 t308 t309 _ A11.out).mono ?_); rintro e w40 ⟨rfl, hb⟩; refine ⟨_, rfl, ?_⟩; have n0_ := Aside0.mk (blk_below (g := gb300) (o := .cells #[.string a0_0, .string a0_1, .int .i64 a0_2] 36 (0, 0)) (by (with_reducible repeat (first | refine blk_drewN ?_ _ | refine blk_drew ?_ | refine blk_alloc ?_ _)); exact BK300.out) hb); have n1_ := Aside0.mk (below_step (by repeat (first | (with_reducible first | exact HB.out | apply below_alloc | apply pw_below_drewN | apply below_drew1 | refine below_set ?_ GE300.out) | exact HB.out)) hb); clear BK300; clear HB; have BK300 := n0_; have HB := n1_; clear n0_ n1_; (try clear hb); (try clear hb2); (try clear hk); (try clear hi)) | ((with_reducible refine gate_callee (f := 22) rfl ?_); refine goesL_ (some 30) rfl rfl Tryd.func22 (by kernel_rfl) rfl #[.agg #[.string t307, .string t308, .int .i64 t309], .int .i64 a1, .bool a2] rfl (by (try simp only [List.map_toArray, List.map_cons, List.map_nil]); first | done | rfl | (simp only [List.length_drop, List.length_take]; rfl)) ?_; (with_reducible refine (impl_CrashLog.calls k t307 t308 t309 a1 a2 t310 t311 _ ?side1 A12.out).mono ?_); (case side1 => exact TabOK.below HT.out (by repeat (first | (with_reducible first | exact HB.out | apply below_alloc | apply pw_below_drewN | apply below_drew1 | refine below_set ?_ GE300.out) | exact HB.out))); rintro e w41 ⟨rfl, hb⟩; refine ⟨_, rfl, ?_⟩; have n0_ := Aside0.mk (blk_below (g := gb300) (o := .cells #[.string a0_0, .string a0_1, .int .i64 a0_2] 36 (0, 0)) (by (with_reducible repeat (first | refine blk_drewN ?_ _ | refine blk_drew ?_ | refine blk_alloc ?_ _)); exact BK300.out) hb); have n1_ := Aside0.mk (below_step (by repeat (first | (with_reducible first | exact HB.out | apply below_alloc | apply pw_below_drewN | apply below_drew1 | refine below_set ?_ GE300.out) | exact HB.out)) hb); clear BK300; clear HB; have BK300 := n0_; have HB := n1_; clear n0_ n1_; (try clear hb); (try clear hb2); (try clear hk); (try clear hi)))
      go_ret
      exact ⟨by first | rfl | (simp [errW_none, errW_some] <;> rfl) | (simp [*, errW_none, errW_some] <;> rfl), by repeat (first | (with_reducible first | exact HB.out | apply below_alloc | apply pw_below_drewN | apply below_drew1 | refine below_set ?_ GE300.out) | exact HB.out)⟩
end Go.Proofs.YtnjambhlblngcaaDoor.P
namespace Go.Proofs.YtnjambhlblngcaaDoor.P
open Go.RowKit Go.Proofs.YtnjambhlblngcaaDoorW.PrintWords Go.Proofs.YtnjambhlblngcaaDoorW.PrintLast Go.Proofs.YtnjambhlblngcaaDoorW.PrintMore
set_option linter.unusedVariables false
set_option linter.unusedSimpArgs false

theorem Ter.if_eq {α : Type} {c : Prop} [Decidable c] {F G : Nat → Option α} {r : α} (h1 : c → Ter F r) (h2 : ¬ c → Ter G r) : Ter (fun k => if c then F k else G k) r := by
  by_cases h : c
  · exact Ter.ifp h (h1 h)
  · exact Ter.ifn h (h2 h)

theorem lIn_is (a b c : Int) : spec_l1In.f a b c = some (decide (b ≤ a) && decide (a ≤ c)) := by
  unfold spec_l1In.f
  by_cases h1 : b ≤ a <;> by_cases h2 : a ≤ c <;> simp [h1, h2] <;> omega

theorem lWithin_is (a b c : Int) : impl_within.f a b c = some (decide (b ≤ a) && decide (a ≤ c)) := by
  unfold impl_within.f
  by_cases h1 : b ≤ a <;> by_cases h2 : a ≤ c <;> simp [h1, h2] <;> omega

theorem drop_at {l : Bs} {i : Nat} (h : i < l.length) : l.drop i = l[i] :: l.drop (i + 1) := List.drop_eq_getElem_cons h

theorem tmod_is {a b : Int} (h : 0 ≤ a) : Int.tmod a b = a % b := Int.tmod_eq_emod_of_nonneg h

theorem sum_step {h : Int} {x : UInt8} (h0 : 0 ≤ h) (h1 : h < 999979) : Int.tmod (wrap64 ((wrap64 ((wrap64 (41 * h)) + (wrap64 (x.toNat : Int)))) + 1)) 999979 = (41 * h + (x.toNat : Int) + 1) % 999979 := by
  have hx := byte_lt x
  rw [w64 (n := 41 * h) (by omega) (by omega), w64 (n := (x.toNat : Int)) (by omega) (by omega), w64 (n := 41 * h + (x.toNat : Int)) (by omega) (by omega), w64 (by omega) (by omega), tmod_is (by omega)]

theorem checksum_is {l : Bs} (hl : l.length ≤ 1152921504606846976) : Ter (fun k => impl_checksum.f k (bs l)) (sumL 7 l) := by
  unfold impl_checksum.f
  rw [bs_size]
  have key := down_ (Q := fun i => ∀ h : Int, 0 ≤ h → h < 999979 → Ter (fun k => impl_checksum.l0 k (bs l) h (l.length : Int) (i : Int)) (sumL h (l.drop i))) l.length
    (fun h _ _ => Ter.succ (by simp only [impl_checksum.l0]; refine Ter.ifn (by omega) ((Ter.ret _).eq ?_); rw [List.drop_length]; rfl))
    (fun i hi ih h h0 h1 => by
      refine Ter.succ ?_
      simp only [impl_checksum.l0]
      refine Ter.ifp (by omega) (Ter.ifp (by omega) (Ter.ifp (by rw [bs_size]; omega) ?_))
      rw [bs_bt hi, w64s hi (by omega), sum_step h0 h1, drop_at hi]
      exact ih _ (by omega) (by omega)) 0 (by omega)
  exact key 7 (by omega) (by omega)

theorem l1Sum_is {l : Bs} (hl : l.length ≤ 1152921504606846976) : Ter (fun k => spec_l1Sum.f k (bs l)) (sumL 7 l) := by
  unfold spec_l1Sum.f
  have key := down_ (Q := fun i => ∀ h : Int, 0 ≤ h → h < 999979 → Ter (fun k => spec_l1Sum.l0 k (bs l) h (i : Int)) (sumL h (l.drop i))) l.length
    (fun h _ _ => Ter.succ (by simp only [spec_l1Sum.l0]; refine Ter.ifn (by rw [bs_size]; omega) ((Ter.ret _).eq ?_); rw [List.drop_length]; rfl))
    (fun i hi ih h h0 h1 => by
      refine Ter.succ ?_
      simp only [spec_l1Sum.l0]
      refine Ter.ifp (by rw [bs_size]; omega) (Ter.ifp (by omega) ?_)
      rw [bs_bt hi, w64s hi (by omega), sum_step h0 h1, drop_at hi]
      exact ih _ (by omega) (by omega)) 0 (by omega)
  exact key 7 (by omega) (by omega)

theorem digit_cut : ∀ m : Nat, m < 10 → (⟨#[48, 49, 50, 51, 52, 53, 54, 55, 56, 57]⟩ : ByteArray).extract m (m + 1) = bs [UInt8.ofNat (48 + m)] := by
  intro m hm
  rw [show (⟨#[48, 49, 50, 51, 52, 53, 54, 55, 56, 57]⟩ : ByteArray) = bs [48, 49, 50, 51, 52, 53, 54, 55, 56, 57] from rfl, bs_cut]
  congr 1
  have : ∀ m : Fin 10, (([48, 49, 50, 51, 52, 53, 54, 55, 56, 57] : Bs).take (m.val + 1)).drop m.val = [UInt8.ofNat (48 + m.val)] := by decide
  exact this ⟨m, hm⟩

theorem itoa_small {n : Nat} (h : n < 10) : Lib.itoa (n : Int) = [UInt8.ofNat (48 + n)] := by
  unfold Lib.itoa
  rw [if_neg (by omega), Int.toNat_natCast, Lib.decDigits, dif_pos h]

theorem itoa_big {n : Nat} (h : ¬ n < 10) : Lib.itoa (n : Int) = Lib.itoa ((n / 10 : Nat) : Int) ++ [UInt8.ofNat (48 + n % 10)] := by
  unfold Lib.itoa
  rw [if_neg (by omega), if_neg (by omega), Int.toNat_natCast, Int.toNat_natCast, Lib.decDigits, dif_neg h]

theorem l1Num_is (n : Nat) (hn : n ≤ 1152921504606846976) : Ter (fun k => spec_l1Num.f k (n : Int)) (bs (Lib.itoa (n : Int))) := by
  induction n using Nat.strongRecOn with
  | _ n ih =>
    refine Ter.succ ?_
    simp only [spec_l1Num.f]
    refine Ter.ifn (by omega) ?_
    by_cases h : n < 10
    · refine Ter.ifp (by omega) ?_
      rw [w64s (n := 10) h (by omega)]
      refine Ter.ifp (by omega) (Ter.ifp (by omega) (Ter.ifp (by omega) ((Ter.ret _).eq ?_)))
      rw [Int.toNat_natCast, Int.toNat_natCast, digit_cut n h, itoa_small h]
    · refine Ter.ifn (by omega) ?_
      have e1 : wrap64 (Int.tdiv (n : Int) 10) = ((n / 10 : Nat) : Int) := by
        rw [Int.tdiv_eq_ediv_of_nonneg (by omega), w64 (by omega) (by omega)]
        omega
      have e2 : Int.tmod (n : Int) 10 = ((n % 10 : Nat) : Int) := by
        rw [tmod_is (by omega)]
        omega
      rw [e1, e2, w64s (n := 10) (show n % 10 < 10 by omega) (by omega)]
      refine (ih (n / 10) (by omega) (by omega)).bind ?_
      refine Ter.ifp (by omega) (Ter.ifp (by omega) (Ter.ifp (by omega) ?_))
      rw [Int.toNat_natCast, Int.toNat_natCast, digit_cut _ (by omega)]
      have hlen := itoa_len (n := ((n / 10 : Nat) : Int)) (by omega) 18 (by omega)
      refine Ter.ifp (by rw [bs_size, bs_size]; simp only [List.length_cons, List.length_nil]; omega) ((Ter.ret _).eq ?_)
      rw [bs_app, itoa_big h]

theorem Itoa_is (n : Int) (h0 : -9223372036854775808 ≤ n) (h1 : n ≤ 9223372036854775807) : strconv_Itoa.f n = some (bs (Lib.itoa n)) := by
  unfold strconv_Itoa.f
  rw [if_pos ⟨h0, h1⟩]
  rfl

theorem l12Bytes_is {l : Bs} (m : Nat) (hl : l.length ≤ 1152921504606846976) : Ter (fun k => spec_l12Bytes.f k (bs l) (m : Int)) (plainB m l) := by
  unfold spec_l12Bytes.f
  have key := down_ (Q := fun i => Ter (fun k => spec_l12Bytes.l0 k (bs l) (m : Int) (i : Int)) ((l.drop i).all (fun x => decide (32 ≤ x.toNat) && decide (x.toNat ≤ 126) && x != 35) && decide (l.length ≤ m))) l.length
    (Ter.succ (by
      simp only [spec_l12Bytes.l0]
      refine Ter.ifn (by rw [bs_size]; omega) ((Ter.ret _).eq ?_)
      rw [List.drop_length, bs_size]
      by_cases h : l.length ≤ m <;> simp [h]))
    (fun i hi ih => by
      refine Ter.succ ?_
      simp only [spec_l12Bytes.l0]
      refine Ter.ifp (by rw [bs_size]; omega) (Ter.ifp (by omega) ?_)
      have hx := byte_lt l[i]
      rw [bs_bt hi, w64s hi (by omega), w64 (n := ((l[i].toNat : Nat) : Int)) (by omega) (by omega), lIn_is, drop_at hi, List.all_cons]
      by_cases h1 : 32 ≤ l[i].toNat ∧ l[i].toNat ≤ 126
      · simp only [Option.bind_some]
        refine Ter.ifp (by simp; omega) ?_
        by_cases h2 : l[i] = 35
        · refine Ter.ifp (by rw [h2]; rfl) ((Ter.ret _).eq ?_)
          simp [h2]
        · refine Ter.ifn (fun e => h2 (byte_eq (b := 35) e)) (ih.eq ?_)
          have e3 : (l[i] != 35) = true := by simpa using h2
          simp [h1, e3]
      · simp only [Option.bind_some]
        refine Ter.ifn (by simp; omega) ((Ter.ret _).eq ?_)
        have : (decide (32 ≤ l[i].toNat) && decide (l[i].toNat ≤ 126)) = false := by simp; omega
        simp [this]) 0 (by omega)
  exact key

theorem l1Stands_is {l : Bs} (b : UInt8) (hl : l.length ≤ 1152921504606846976) : Ter (fun k => spec_l1Stands.f k (bs l) (b.toNat : Int)) (l.contains b) := by
  unfold spec_l1Stands.f
  have key := down_ (Q := fun i => Ter (fun k => spec_l1Stands.l0 k (bs l) (b.toNat : Int) (i : Int)) ((l.drop i).contains b)) l.length
    (Ter.succ (by
      simp only [spec_l1Stands.l0]
      refine Ter.ifn (by rw [bs_size]; omega) ((Ter.ret _).eq ?_)
      rw [List.drop_length]
      rfl))
    (fun i hi ih => by
      refine Ter.succ ?_
      simp only [spec_l1Stands.l0]
      refine Ter.ifp (by rw [bs_size]; omega) (Ter.ifp (by omega) ?_)
      rw [bs_bt hi, w64s hi (by omega), drop_at hi, List.contains_cons]
      by_cases h2 : l[i] = b
      · refine Ter.ifp (by rw [h2]) ((Ter.ret _).eq ?_)
        simp [h2]
      · refine Ter.ifn (fun e => h2 (byte_eq e)) (ih.eq ?_)
        simp [Ne.symm h2]) 0 (by omega)
  exact key

theorem l12Record_is {c r : Bs} (hc : c.length ≤ 1152921504606846976) (hr : r.length ≤ 1152921504606846976) : Ter (fun k => spec_l12Record.f k (bs c) (bs r)) (okRec c r) := by
  unfold spec_l12Record.f okRec
  by_cases h0 : c = []
  · refine Ter.ifp (by rw [bs_toList, h0]) ((Ter.ret _).eq ?_)
    simp [h0]
  · refine Ter.ifn (by rw [bs_toList]; exact h0) ((l12Bytes_is 160 hc).bind ?_)
    have e0 : c.isEmpty = false := by simpa using h0
    by_cases h1 : plainB 160 c = true
    · refine Ter.ifp h1 ((l1Stands_is 64 hc).bind ?_)
      by_cases h2 : c.contains 64 = true
      · refine Ter.ifp h2 ((Ter.ret _).eq ?_)
        simp only [e0, h1, h2]
        rfl
      · refine Ter.ifn h2 ((l12Bytes_is 260 hr).bind ((Ter.ret _).eq ?_))
        simp only [e0, h1, Bool.not_eq_true] at h2 ⊢
        rw [h2]
        simp
    · refine Ter.ifn h1 ((Ter.ret _).eq ?_)
      simp only [Bool.not_eq_true] at h1
      simp [h1]

theorem any_is : ∀ (l cs : Bs), Lib.containsAny l cs = l.any (fun x => cs.contains x)
  | [], cs => rfl
  | x :: l, cs => by
    have ih := any_is l cs
    unfold Lib.containsAny at ih ⊢
    rw [List.any_cons, ← ih, Lib.indexAny]
    have := Lib.indexAny_ge cs l
    by_cases h : cs.contains x = true
    · rw [if_pos h, h]; rfl
    · rw [if_neg h]
      simp only [Bool.not_eq_true] at h
      rw [h]
      by_cases h2 : Lib.indexAny l cs = -1
      · simp [h2]
      · rw [if_neg (by simpa using h2)]
        simp only [Bool.false_or, decide_eq_decide]
        omega

theorem isPlain_is {l cs : Bs} (m : Nat) (hl : l.length ≤ 1152921504606846976) (hm : m ≤ 1000) (hc1 : cs.length ≤ 10) (hcs : ∀ b ∈ cs, b.toNat < 128) :
    Ter (fun k => impl_isPlain.f k (bs l) (m : Int) (bs cs)) (l.all (fun x => decide (32 ≤ x.toNat) && decide (x.toNat ≤ 126)) && decide (l.length ≤ m) && !l.any (fun x => cs.contains x)) := by
  unfold impl_isPlain.f
  rw [bs_size]
  have key := down_ (Q := fun i => (∀ x ∈ l.take i, x.toNat < 128) → Ter (fun k => impl_isPlain.l0 k (bs l) (m : Int) (bs cs) (l.length : Int) (i : Int)) ((l.drop i).all (fun x => decide (32 ≤ x.toNat) && decide (x.toNat ≤ 126)) && decide (l.length ≤ m) && !l.any (fun x => cs.contains x))) l.length
    (fun hp => Ter.succ (by
      simp only [impl_isPlain.l0]
      refine Ter.ifn (by omega) ?_
      rw [List.drop_length, bs_size]
      by_cases h : l.length ≤ m
      · refine Ter.ifp (by omega) ?_
        unfold strings_ContainsAny.f
        rw [bs_list, bs_list, bs_size, bs_size, if_pos ⟨by omega, by omega, by rw [List.take_length] at hp; exact hp, hcs⟩, any_is]
        refine (Ter.ret _).eq ?_
        simp [h]
      · refine Ter.ifn (by omega) ((Ter.ret _).eq ?_)
        simp [h]))
    (fun i hi ih hp => by
      refine Ter.succ ?_
      simp only [impl_isPlain.l0]
      refine Ter.ifp (by omega) (Ter.ifp (by omega) (Ter.ifp (by rw [bs_size]; omega) ?_))
      rw [bs_bt hi, w64s hi (by omega), drop_at hi, List.all_cons]
      by_cases h1 : (l[i].toNat : Int) < 32
      · refine Ter.ifp h1 ((Ter.ret _).eq ?_)
        have : decide (32 ≤ l[i].toNat) = false := by simp; omega
        simp [this]
      · refine Ter.ifn h1 ?_
        by_cases h2 : (l[i].toNat : Int) > 126
        · refine Ter.ifp h2 ((Ter.ret _).eq ?_)
          have : decide (l[i].toNat ≤ 126) = false := by simp; omega
          simp [this]
        · refine Ter.ifn h2 ((ih ?_).eq ?_)
          · intro x hx
            rw [← take_one hi, List.mem_append, List.mem_singleton] at hx
            rcases hx with hx | hx
            · exact hp x hx
            · subst hx; omega
          · have e1 : decide (32 ≤ l[i].toNat) = true := by simp; omega
            have e2 : decide (l[i].toNat ≤ 126) = true := by simp; omega
            simp [e1, e2]) 0 (by omega)
  exact key (by simp)

theorem plain_split (m : Nat) (l : Bs) : plainB m l = (l.all (fun x => decide (32 ≤ x.toNat) && decide (x.toNat ≤ 126)) && l.all (fun x => x != 35) && decide (l.length ≤ m)) := by
  unfold plainB
  congr 1
  induction l with
  | nil => rfl
  | cons x l ih =>
    have : ∀ a b c d : Bool, (a && b && (c && d)) = (a && c && (b && d)) := by decide
    rw [List.all_cons, List.all_cons, List.all_cons, ih, this]

theorem any_hash (l : Bs) : (!l.any (fun x => ([35] : Bs).contains x)) = l.all (fun x => x != 35) := by
  induction l with
  | nil => rfl
  | cons x l ih => simp only [List.any_cons, List.all_cons, ← ih, Bool.not_or]; congr 1; by_cases h : x = 35 <;> simp [h]

theorem any_both (l : Bs) : (!l.any (fun x => ([35, 64] : Bs).contains x)) = (l.all (fun x => x != 35) && !l.contains 64) := by
  induction l with
  | nil => rfl
  | cons x l ih =>
    by_cases h : x = 35
    · subst h; simp
    · by_cases h2 : x = 64
      · subst h2; simp
      · have this : ((64 : UInt8) == x) = false := by simpa using Ne.symm h2
        have e1 : ([35, 64] : Bs).contains x = false := by simp [h, h2]
        have e2 : (x != 35) = true := by simpa using h
        rw [List.any_cons, e1, List.all_cons, e2, show (x :: l).contains 64 = l.contains 64 by rw [List.contains_cons, this, Bool.false_or], Bool.false_or, Bool.true_and]
        exact ih

theorem IsValidRecord_is {c r : Bs} (hc : c.length ≤ 1152921504606846976) (hr : r.length ≤ 1152921504606846976) : Ter (fun k => impl_IsValidRecord.f k (bs c) (bs r)) (okRec c r) := by
  unfold impl_IsValidRecord.f okRec
  have e1 : Ter (fun k => impl_isCommand.f k (bs c)) (!c.isEmpty && plainB 160 c && !c.contains 64) := by
    unfold impl_isCommand.f
    by_cases h0 : c = []
    · refine Ter.ifp (by rw [bs_toList, h0]) ((Ter.ret _).eq ?_)
      simp [h0]
    · refine Ter.ifn (by rw [bs_toList]; exact h0) ?_
      rw [lit2]
      refine (isPlain_is 160 hc (by omega) (by simp) (by decide)).bind ((Ter.ret _).eq ?_)
      have e0 : c.isEmpty = false := by simpa using h0
      rw [any_both, plain_split, e0]
      exact (by decide : ∀ a b d e : Bool, (a && d && (b && e)) = (!false && (a && b && d) && e)) _ _ _ _
  refine e1.bind ?_
  by_cases h : (!c.isEmpty && plainB 160 c && !c.contains 64) = true
  · rw [h]
    refine Ter.ifp rfl ?_
    rw [lit1]
    refine (isPlain_is 260 hr (by omega) (by simp) (by decide)).bind ((Ter.ret _).eq ?_)
    rw [any_hash, plain_split, Bool.true_and]
    exact (by decide : ∀ a b d : Bool, (a && d && b) = (a && b && d)) _ _ _
  · simp only [Bool.not_eq_true] at h
    rw [h]
    exact Ter.ifn (by decide) ((Ter.ret _).eq rfl)

theorem l1Seal_is {l : Bs} (hl : l.length ≤ 1000000000) : Ter (fun k => spec_l1Seal.f k (bs l)) (bs (sealB l)) := by
  have hs := sumL_range l 7 (by omega) (by omega)
  obtain ⟨n, hn⟩ : ∃ n : Nat, sumL 7 l = (n : Int) := ⟨(sumL 7 l).toNat, by omega⟩
  have h2 := itoa_len hs.1 5 (by omega)
  unfold spec_l1Seal.f sealB
  refine Ter.ifp (by rw [bs_size]; omega) ((l1Sum_is (by omega)).bind ?_)
  rw [hn] at h2 ⊢
  refine (l1Num_is n (by omega)).bind ?_
  rw [lit1, bs_app]
  refine Ter.ifp (by rw [bs_size, bs_size]; simp only [List.length_append, List.length_cons, List.length_nil]; omega) ((Ter.ret _).eq ?_)
  rw [bs_app]
  simp

theorem line_app (k : Int) (c r : Bs) : ((((Lib.itoa k ++ [32]) ++ c) ++ [64]) ++ r) = bodyB k c r := by unfold bodyB; simp

theorem l12Line_is {c r : Bs} (k : Nat) (hk : k ≤ 1000) (hc : c.length ≤ 100000000) (hr : r.length ≤ 100000000) : Ter (fun n => spec_l12Line.f n (k : Int) (bs c) (bs r)) (bs (lineB (k : Int) c r)) := by
  have h2 := itoa_len (n := (k : Int)) (by omega) 3 (by omega)
  unfold spec_l12Line.f
  refine (l1Num_is k (by omega)).bind ?_
  simp only [lit1, bs_app, bs_size, List.length_append, List.length_cons, List.length_nil]
  refine Ter.ifp (by omega) (Ter.ifp (by omega) (Ter.ifp (by omega) (Ter.ifp (by omega) ?_)))
  rw [line_app]
  have h3 : (bodyB (k : Int) c r).length ≤ 1000000000 := by unfold bodyB; simp only [List.length_append, List.length_cons]; omega
  refine (l1Seal_is h3).bind ?_
  have h4 := seal_len (bodyB (k : Int) c r)
  rw [bs_size]
  exact Ter.ifp (by omega) ((Ter.ret _).eq (by rw [bs_app]; rfl))

theorem Contains_is (l : Bs) (b : UInt8) : strings_Contains.f (bs l) (⟨#[b]⟩ : ByteArray) = some (l.contains b) := by
  show some (decide (0 ≤ Lib.indexByte l b)) = _
  congr 1
  induction l with
  | nil => rfl
  | cons x l ih =>
    rw [List.contains_cons, ← ih, Lib.indexByte]
    have := Lib.indexByte_ge l b
    by_cases h : x = b
    · subst h; simp
    · have h1 : (x == b) = false := by simpa using h
      have h2 : (b == x) = false := by simpa using Ne.symm h
      rw [h1, h2]
      by_cases h3 : Lib.indexByte l b = -1
      · simp [h3]
      · have h4 : (Lib.indexByte l b == -1) = false := by simpa using h3
        rw [h4]
        simp only [Bool.false_eq_true, if_false, Bool.false_or, decide_eq_decide]
        omega

theorem AppendChecksum_is {l : Bs} (hl : l.length ≤ 1000000000) (hn : (35 : UInt8) ∉ l) : Ter (fun k => impl_AppendChecksum.f k (bs l)) (if (sealB l).length ≤ 4000 then (bs (sealB l), true) else (bs [], false)) := by
  have hs := sumL_range l 7 (by omega) (by omega)
  have h2 := itoa_len hs.1 5 (by omega)
  have h3 : (sealB l).length = l.length + 1 + (Lib.itoa (sumL 7 l)).length := by unfold sealB; simp only [List.length_append, List.length_cons]; omega
  have hj : l.length ≤ 4000 → Ter (fun k => impl_AppendChecksum.j0 k (bs l) false) (if (sealB l).length ≤ 4000 then (bs (sealB l), true) else (bs [], false)) := by
    intro h4
    refine Ter.succ ?_
    simp only [impl_AppendChecksum.j0]
    refine Ter.ifn (by decide) (Ter.ifp (by rw [bs_size]; omega) ((checksum_is (by omega)).bind ?_))
    rw [Itoa_is _ (by omega) (by omega)]
    simp only [Option.bind_some, lit1, lit0, bs_app, bs_size, List.length_append, List.length_cons, List.length_nil]
    refine Ter.ifp (by omega) ?_
    by_cases h5 : (sealB l).length ≤ 4000
    · rw [if_pos h5]
      refine Ter.ifn (by omega) ((Ter.ret _).eq ?_)
      unfold sealB
      simp
    · rw [if_neg h5]
      exact Ter.ifp (by omega) (Ter.ret _)
  unfold impl_AppendChecksum.f
  by_cases h4 : l.length ≤ 4000
  · refine Ter.ifn (by rw [bs_size]; omega) ?_
    rw [Contains_is]
    have : l.contains 35 = false := by simpa using hn
    rw [this]
    exact hj h4
  · refine Ter.ifp (by rw [bs_size]; omega) ?_
    refine Ter.succ ?_
    simp only [impl_AppendChecksum.j0]
    rw [if_neg (by omega)]
    exact Ter.ifp trivial (Ter.ret _)

theorem cut_no (l : Bs) (b : UInt8) : b ∉ (Lib.cut l [b]).1 := by
  by_cases hm : b ∈ l
  · have e := split_at hm
    rw [e, cut_app _ (not_ahead l)]
    exact not_ahead l
  · rw [cut_not hm]
    exact hm

theorem cut_len (l : Bs) (b : UInt8) : (Lib.cut l [b]).1.length ≤ l.length ∧ (Lib.cut l [b]).2.1.length ≤ l.length := by
  by_cases hm : b ∈ l
  · have e := split_at hm
    have e2 : Lib.cut l [b] = (ahead b l, behind b l, true) := by rw [e, cut_app _ (not_ahead l), ← e]
    have e3 := congrArg List.length e
    simp only [List.length_append, List.length_cons] at e3
    rw [e2]
    constructor <;> simp only [] <;> omega
  · rw [cut_not hm]
    simp

theorem Cut_is (l : Bs) (b : UInt8) (hl : l.length < 4294967281) : strings_Cut.f (bs l) (⟨#[b]⟩ : ByteArray) = some (bs (Lib.cut l [b]).1, bs (Lib.cut l [b]).2.1, (Lib.cut l [b]).2.2) := by
  unfold strings_Cut.f
  rw [if_pos (by rw [bs_size]; exact hl)]
  rfl

theorem Verify_is {l : Bs} (hl : l.length ≤ 1000000000) : ∃ b : Bool, Ter (fun k => impl_VerifyChecksum.f k (bs l)) (bs (verB l), b) := by
  have h1 := cut_len l 35
  unfold impl_VerifyChecksum.f
  simp only [Cut_is l 35 (by omega), Option.bind_some]
  by_cases h : (sealB (Lib.cut l [35]).1).length ≤ 4000
  · by_cases h2 : sealB (Lib.cut l [35]).1 = l
    · refine ⟨true, (AppendChecksum_is (by omega) (cut_no l 35)).bind ?_⟩
      rw [if_pos h]
      refine Ter.ifp rfl (Ter.ifp (by rw [bs_toList, bs_toList]; exact h2) ((Ter.ret _).eq ?_))
      unfold verB
      rw [if_pos ⟨h2, by rw [h2] at h; exact h⟩]
    · refine ⟨false, (AppendChecksum_is (by omega) (cut_no l 35)).bind ?_⟩
      rw [if_pos h]
      refine Ter.ifp rfl (Ter.ifn (by rw [bs_toList, bs_toList]; exact h2) ((Ter.ret _).eq ?_))
      unfold verB
      rw [if_neg (fun e => h2 e.1)]
      rfl
  · refine ⟨false, (AppendChecksum_is (by omega) (cut_no l 35)).bind ?_⟩
    rw [if_neg h]
    refine Ter.ifn (by decide) ((Ter.ret _).eq ?_)
    unfold verB
    rw [if_neg (fun e => h (by rw [e.1]; exact e.2))]
    rfl

/-- What both encoders tell. -/
def encB (k : Int) (c r : Bs) : ByteArray × Bool := if (0 ≤ k ∧ k ≤ 59) ∧ okRec c r = true then (bs (lineB k c r), true) else (bs [], false)

theorem implEncode_is {c r : Bs} (k : Int) (hc : c.length ≤ 100000000) (hr : r.length ≤ 100000000) : Ter (fun n => impl_EncodeRecord.f n k (bs c) (bs r)) (encB k c r) := by
  have hj : Ter (fun n => impl_EncodeRecord.j0 n k true (bs c) (bs r)) (bs [], false) := Ter.succ (by simp only [impl_EncodeRecord.j0]; exact Ter.ifp trivial (Ter.ret _))
  unfold impl_EncodeRecord.f encB
  rw [lWithin_is]
  simp only [Option.bind_some]
  by_cases h : 0 ≤ k ∧ k ≤ 59
  · refine Ter.ifp (by simp; omega) ((IsValidRecord_is (by omega) (by omega)).bind ?_)
    by_cases h2 : okRec c r = true
    · rw [if_pos ⟨h, h2⟩, h2]
      refine Ter.succ ?_
      simp only [impl_EncodeRecord.j0]
      rw [Itoa_is k (by omega) (by omega)]
      simp only [Option.bind_some, lit1, bs_app, bs_size, List.length_append, List.length_cons, List.length_nil]
      have h3 := itoa_len h.1 1 (by omega)
      have ho := okRec_ok h2
      have h4 := body_len h.1 (by omega) ho
      have h5 := seal_len (bodyB k c r)
      refine Ter.ifn (by decide) (Ter.ifp (by omega) (Ter.ifp (by omega) (Ter.ifp (by omega) (Ter.ifp (by omega) ?_))))
      rw [line_app]
      have hA := AppendChecksum_is (l := bodyB k c r) (by omega) (body_hash h.1 ho)
      rw [if_pos (show (sealB (bodyB k c r)).length ≤ 4000 by omega)] at hA
      refine hA.bind ?_
      exact Ter.ifp (by rw [bs_size]; omega) ((Ter.ret _).eq (by rw [bs_app]; rfl))
    · rw [if_neg (fun e => h2 e.2)]
      simp only [Bool.not_eq_true] at h2
      rw [h2]
      exact hj
  · rw [if_neg (fun e => h e.1)]
    exact Ter.ifn (by simp; omega) hj
end Go.Proofs.YtnjambhlblngcaaDoor.P
namespace Go.Proofs.YtnjambhlblngcaaDoor.P
open Go.RowKit Go.Proofs.YtnjambhlblngcaaDoorW.PrintWords Go.Proofs.YtnjambhlblngcaaDoorW.PrintLast Go.Proofs.YtnjambhlblngcaaDoorW.PrintMore
set_option linter.unusedVariables false
set_option linter.unusedSimpArgs false

theorem take_drop_app {l : Bs} {i j : Nat} (h : i ≤ j) : l.drop i = (l.take j).drop i ++ l.drop j := by
  by_cases hj : j ≤ l.length
  · have e : l = l.take j ++ l.drop j := (List.take_append_drop j l).symm
    have : (l.take j ++ l.drop j).drop i = (l.take j).drop i ++ l.drop j := List.drop_append_of_le_length (by rw [List.length_take]; omega)
    rw [← e] at this
    exact this
  · rw [show l.drop j = [] from List.drop_eq_nil_of_le (by omega), List.append_nil, List.take_of_length_le (by omega)]

theorem l1Split_is {l : Bs} (b : UInt8) (hl : l.length ≤ 1000000000) : ∃ (p : List ByteArray) (q : ByteArray × List ByteArray), Ter (fun k => spec_l1Split.f k (bs l) (b.toNat : Int)) (bs (ahead b l) :: p) ∧ (b ∉ l → p = []) ∧ (b ∈ l → p = q.1 :: q.2) := by
  have key := down_ (Q := fun i => ∀ (out : List ByteArray) (a : Nat), a ≤ i → out.length ≤ i → b ∉ (l.take i).drop a → ∃ (p : List ByteArray) (q : ByteArray × List ByteArray), Ter (fun k => spec_l1Split.l0 k (bs l) (b.toNat : Int) out (a : Int) (i : Int)) (out ++ bs (ahead b (l.drop a)) :: p) ∧ (b ∉ l.drop i → p = []) ∧ (b ∈ l.drop i → p = q.1 :: q.2)) l.length
    (fun out a ha ho hb => ⟨[], (ByteArray.empty, []), Ter.succ (by
      simp only [spec_l1Split.l0]
      refine Ter.ifn (by rw [bs_size]; omega) (Ter.ifp (by omega) (Ter.ifp (by rw [bs_size]; omega) (Ter.ifp (by omega) ((Ter.ret _).eq ?_))))
      rw [bs_size, Int.toNat_natCast, bs_from]
      rw [List.take_length] at hb
      rw [ahead_none hb]), fun _ => rfl, fun h => by rw [List.drop_length] at h; cases h⟩)
    (fun i hi ih out a ha ho hb => by
      have hbt : bt (bs l) (i : Int) = (l[i].toNat : Int) := bs_bt hi
      by_cases h2 : l[i] = b
      · obtain ⟨p, q, h3, _, _⟩ := ih (out ++ [bs (ahead b (l.drop a))]) (i + 1) (Nat.le_refl _) (by simp; omega) (by rw [List.drop_eq_nil_of_le (by rw [List.length_take]; omega)]; simp)
        refine ⟨bs (ahead b (l.drop (i + 1))) :: p, (bs (ahead b (l.drop (i + 1))), p), Ter.succ ?_, fun h => absurd (by rw [drop_at hi, h2]; simp) h, fun _ => rfl⟩
        simp only [spec_l1Split.l0]
        refine Ter.ifp (by rw [bs_size]; omega) (Ter.ifp (by omega) (Ter.ifp (by rw [hbt, h2]) (Ter.ifp (by omega) (Ter.ifp (by omega) (Ter.ifp (by rw [bs_size]; omega) (Ter.ifp (by omega) ?_))))))
        rw [w64s hi (by omega), Int.toNat_natCast, Int.toNat_natCast, bs_cut]
        have e1 : ahead b (l.drop a) = (l.take i).drop a := by
          rw [take_drop_app ha, drop_at hi, h2]
          exact ahead_app _ hb
        rw [e1] at h3
        refine h3.eq ?_
        rw [e1]
        simp
      · obtain ⟨p, q, h3, h4, h5⟩ := ih out a (by omega) (by omega) (by
          have e : (l.take (i + 1)).drop a = (l.take i).drop a ++ [l[i]] := by
            rw [← take_one hi, List.drop_append_of_le_length (by rw [List.length_take]; omega)]
          rw [e, List.mem_append, List.mem_singleton]
          rintro (h | h)
          · exact hb h
          · exact h2 h.symm)
        refine ⟨p, q, Ter.succ ?_, fun h => h4 (fun h6 => h (by rw [drop_at hi]; exact List.mem_cons_of_mem _ h6)), fun h => h5 (by
          rw [drop_at hi] at h
          rcases List.mem_cons.1 h with h | h
          · exact absurd h.symm h2
          · exact h)⟩
        simp only [spec_l1Split.l0]
        refine Ter.ifp (by rw [bs_size]; omega) (Ter.ifp (by omega) (Ter.ifn (fun e => h2 (byte_eq (hbt.symm.trans e))) ?_))
        rw [w64s hi (by omega)]
        exact h3) 0 (by omega)
  obtain ⟨p, q, h1, h2, h3⟩ := key [] 0 (Nat.le_refl _) (Nat.le_refl _) (by simp)
  exact ⟨p, q, h1, h2, h3⟩

theorem rd_head (x : ByteArray) (p : List ByteArray) : rdOf ByteArray.empty (x :: p) 0 = x := rfl

theorem ahead_len (b : UInt8) (l : Bs) : (ahead b l).length ≤ l.length := (List.takeWhile_sublist _).length_le

theorem dec_is {l : Bs} (k : Nat) (hk : k ≤ 100) (hl : l.length ≤ 1000000) : ∃ x y : Bs, ∃ ok : Bool, Ter (fun n => spec_l12Decode.f n (bs l) (k : Int)) (bs x, bs y, ok) ∧ dec l (k : Int) = if ok = true then some (x, y) else none := by
  have hn := itoa_len (n := (k : Int)) (by omega) 2 (by omega)
  obtain ⟨p, q, hs, _, _⟩ := l1Split_is (l := l) 35 (by omega)
  have ht := ahead_len 35 l
  have hF0 : ∀ {r : ByteArray × ByteArray × Bool}, Ter (fun n => if ((ahead 35 l).length : Int) < ((Lib.itoa (k : Int) ++ [32]).length : Int) then spec_l12Decode.j0 n (bs l) (k : Int) (bs (Lib.itoa (k : Int) ++ [32])) (bs (ahead 35 l)) true else spec_l12Decode.j0 n (bs l) (k : Int) (bs (Lib.itoa (k : Int) ++ [32])) (bs (ahead 35 l)) ((ahead 35 l).take (Lib.itoa (k : Int) ++ [32]).length != Lib.itoa (k : Int) ++ [32])) r → Ter (fun n => spec_l12Decode.f n (bs l) (k : Int)) r := by
    intro r h
    unfold spec_l12Decode.f
    refine (l1Num_is k (by omega)).bind ?_
    simp only [lit1, bs_app, bs_size]
    refine Ter.ifp (by omega) (hs.bind ?_)
    refine Ter.ifp (by simp only [List.length_cons]; omega) ?_
    rw [rd_head, bs_size]
    by_cases hc : ((ahead 35 l).length : Int) < ((Lib.itoa (k : Int) ++ [32]).length : Int)
    · simp only [if_pos hc] at h ⊢
      exact h
    · simp only [if_neg hc] at h ⊢
      refine Ter.ifp (by omega) (Ter.ifp (by omega) ?_)
      rw [Int.toNat_natCast, bs_upto, bs_toList, bs_toList]
      exact h
  generalize hd_ : Lib.itoa (k : Int) ++ [32] = hd at hF0
  generalize ht_ : ahead 35 l = text at hF0 ht
  have hT : Ter (fun n => spec_l12Decode.j0 n (bs l) (k : Int) (bs hd) (bs text) true) (bs [], bs [], false) := Ter.succ (by simp only [spec_l12Decode.j0]; exact Ter.ifp trivial (Ter.ret _))
  unfold dec
  simp only [hd_, ht_]
  by_cases c1 : text.length < hd.length
  · simp only [if_pos (Int.ofNat_lt.2 c1)] at hF0
    exact ⟨[], [], false, hF0 hT, by rw [if_pos (.inl c1)]; rfl⟩
  · simp only [if_neg (fun e => c1 (Int.ofNat_lt.1 e))] at hF0
    have hF := @hF0
    clear hF0
    by_cases c2 : text.take hd.length = hd
    · have e2 : (text.take hd.length != hd) = false := by simpa using c2
      rw [e2] at hF
      rw [if_neg (by rintro (h | h); exact c1 h; exact h c2)]
      obtain ⟨p2, q2, hs2, _, _⟩ := l1Split_is (l := text.drop hd.length) 64 (by simp; omega)
      have ht2 := ahead_len 64 (text.drop hd.length)
      have h7 : (ahead 64 (text.drop hd.length)).length ≤ 1000000 := by
        rw [List.length_drop] at ht2
        omega
      have hJ : ∀ {r : ByteArray × ByteArray × Bool}, Ter (fun n => if (((ahead 64 (text.drop hd.length)).length : Nat) : Int) = ((text.drop hd.length).length : Int) then some (bs [], bs [], false) else ((spec_l12Record.f n (bs (ahead 64 (text.drop hd.length))) (bs ((text.drop hd.length).drop ((ahead 64 (text.drop hd.length)).length + 1)))).bind fun t188 => (if t188 = true then ((spec_l12Line.f n (k : Int) (bs (ahead 64 (text.drop hd.length))) (bs ((text.drop hd.length).drop ((ahead 64 (text.drop hd.length)).length + 1)))).bind fun t189 => some (bs (ahead 64 (text.drop hd.length)), bs ((text.drop hd.length).drop ((ahead 64 (text.drop hd.length)).length + 1)), t189.toList == l ++ [10])) else some (bs (ahead 64 (text.drop hd.length)), bs ((text.drop hd.length).drop ((ahead 64 (text.drop hd.length)).length + 1)), false)))) r → Ter (fun n => spec_l12Decode.j0 n (bs l) (k : Int) (bs hd) (bs text) false) r := by
        intro r h
        refine Ter.succ ?_
        simp only [spec_l12Decode.j0, bs_size, Int.toNat_natCast, bs_from]
        refine Ter.ifn (by decide) (Ter.ifp (by omega) (Ter.ifp (by omega) (hs2.bind ?_)))
        refine Ter.ifp (by simp only [List.length_cons]; omega) ?_
        rw [rd_head]
        simp only [bs_size]
        by_cases c3 : (((ahead 64 (text.drop hd.length)).length : Nat) : Int) = ((text.drop hd.length).length : Int)
        · simp only [if_pos c3] at h
          exact Ter.ifp c3 h
        · simp only [if_neg c3] at h
          refine Ter.ifn c3 ?_
          have e3 : wrap64 ((((ahead 64 (text.drop hd.length)).length : Nat) : Int) + 1) = (((ahead 64 (text.drop hd.length)).length + 1 : Nat) : Int) := by
            generalize (ahead 64 (text.drop hd.length)).length = m at h7
            rw [w64 (by omega) (by omega)]
            omega
          simp only [e3]
          refine Ter.ifp (by omega) (Ter.ifp (by omega) ?_)
          have e9 : l.length + 1 ≤ 9223372036854775807 := by omega
          simp only [Int.toNat_natCast, bs_from, lit1, bs_app, bs_toList, if_pos e9]
          exact h
      by_cases c3 : (ahead 64 (text.drop hd.length)).length = (text.drop hd.length).length
      · refine ⟨[], [], false, hF (hJ (Ter.ifp (by rw [c3]) (Ter.ret _))), ?_⟩
        rw [if_pos c3]
        rfl
      · rw [if_neg c3]
        generalize ha_ : ahead 64 (text.drop hd.length) = ask at hJ ht2 c3
        generalize hr_ : (text.drop hd.length).drop (ask.length + 1) = rep at hJ
        have h5 : ask.length ≤ 1000000 := by simp at ht2; omega
        have h6 : rep.length ≤ 1000000 := by rw [← hr_]; simp; omega
        by_cases c4 : okRec ask rep = true
        · refine ⟨ask, rep, lineB (k : Int) ask rep == l ++ [10], hF (hJ (Ter.ifn (by omega) ((l12Record_is (by omega) (by omega)).bind ?_))), ?_⟩
          · refine Ter.ifp c4 ((l12Line_is k (by omega) (by omega) (by omega)).bind ((Ter.ret _).eq ?_))
            rw [bs_toList]
          · by_cases c5 : lineB (k : Int) ask rep = l ++ [10]
            · rw [if_pos ⟨c4, c5⟩, if_pos (by simpa using c5)]
            · rw [if_neg (fun e => c5 e.2), if_neg (by simpa using c5)]
        · refine ⟨ask, rep, false, hF (hJ (Ter.ifn (by omega) ((l12Record_is (by omega) (by omega)).bind (Ter.ifn c4 (Ter.ret _))))), ?_⟩
          rw [if_neg (fun e => c4 e.1)]
          rfl
    · have e2 : (text.take hd.length != hd) = true := by simpa using c2
      rw [e2] at hF
      exact ⟨[], [], false, hF hT, by rw [if_pos (.inr c2)]; rfl⟩

def toRec (p : Bs × Bs) : S27 := ⟨bs p.1, bs p.2⟩

theorem one_len {k : Int} (hk : 0 ≤ k) {t : Bs} {c r : Bs} (h : one k t = some (c, r)) : t.length ≥ (lineB k c r).length := (one_starts h).2.length_le

theorem line_ahead {k : Int} (hk : 0 ≤ k) {t c r : Bs} (h : one k t = some (c, r)) : (10 : UInt8) ∈ t ∧ (ahead 10 t).length + 1 = (lineB k c r).length := by
  obtain ⟨ho, q, rfl⟩ := one_starts h
  have hr := okRec_ok ho
  unfold lineB
  refine ⟨by simp, ?_⟩
  rw [List.append_assoc, show [10] ++ q = 10 :: q from rfl, ahead_app q (seal_nl (body_nl hk hr))]
  simp

theorem l12Open_is {l : Bs} (hl : l.length ≤ 1000000) : Ter (fun n => spec_l12Open.f n (bs l)) ((recs 60 0 l).map toRec, (lenR 0 (recs 60 0 l) : Int)) := by
  have key : ∀ (n : Nat) (out : List S27) (a : Nat), out.length + n = 60 → a ≤ l.length → Ter (fun k => spec_l12Open.l0 k (bs l) out (a : Int)) (out ++ (recs n (out.length : Int) (l.drop a)).map toRec, ((a + lenR (out.length : Int) (recs n (out.length : Int) (l.drop a)) : Nat) : Int)) := by
    have hj : ∀ (out : List S27) (a : Nat), Ter (fun k => spec_l12Open.j1 k (bs l) out (a : Int) false) (out, (a : Int)) := fun out a => Ter.succ (by simp only [spec_l12Open.j1]; exact Ter.ifn (by decide) (Ter.ret _))
    intro n
    induction n with
    | zero =>
      intro out a h1 h2
      refine Ter.succ ?_
      simp only [spec_l12Open.l0, recs, List.map_nil, List.append_nil, lenR, Nat.add_zero]
      rw [show decide ((out.length : Int) < 60) = false by simp; omega]
      exact Ter.if_eq (fun _ => hj out a) (fun _ => hj out a)
    | succ n ih =>
      intro out a h1 h2
      refine Ter.succ ?_
      simp only [spec_l12Open.l0, bs_size]
      by_cases h3 : a < l.length
      · refine Ter.ifp (by omega) ?_
        rw [show decide ((out.length : Int) < 60) = true by simp; omega]
        refine Ter.succ ?_
        simp only [spec_l12Open.j1, bs_size, Int.toNat_natCast, bs_from]
        refine Ter.ifp trivial (Ter.ifp (by omega) (Ter.ifp (by omega) ?_))
        obtain ⟨p, q, hs, hp1, hp2⟩ := l1Split_is (l := l.drop a) 10 (by simp; omega)
        refine hs.bind (Ter.ifp (by simp only [List.length_cons]; omega) ?_)
        rw [rd_head]
        have hal := ahead_len 10 (l.drop a)
        obtain ⟨x, y, ok, hd, hd2⟩ := dec_is (l := ahead 10 (l.drop a)) out.length (by omega) (by simp at hal; omega)
        refine hd.bind ?_
        have e1 := one'_eq (k := (out.length : Int)) (by omega) (by omega) (l.drop a)
        unfold one' at e1
        by_cases h4 : (10 : UInt8) ∈ l.drop a
        · rw [if_pos h4, hd2] at e1
          rw [hp2 h4]
          refine Ter.ifn (by simp only [List.length_cons]; omega) ?_
          cases ok with
          | false =>
            rw [if_neg (by decide)] at e1
            refine Ter.ifn (by simp) ((Ter.ret _).eq ?_)
            simp only [recs, ← e1, List.map_nil, List.append_nil, lenR, Nat.add_zero]
          | true =>
            rw [if_pos rfl] at e1
            refine Ter.ifp rfl (Ter.ifp (by omega) ?_)
            have e2 := (line_ahead (k := (out.length : Int)) (by omega) e1.symm).2
            have e3 := one_len (k := (out.length : Int)) (by omega) e1.symm
            simp only [List.length_drop] at e3
            have e4 : wrap64 (wrap64 ((a : Int) + ((bs (ahead 10 (l.drop a))).size : Int)) + 1) = ((a + (lineB (out.length : Int) x y).length : Nat) : Int) := by
              rw [bs_size, w64 (n := (a : Int) + _) (by omega) (by omega), w64 (by omega) (by omega)]
              omega
            rw [e4]
            refine (ih (out ++ [(⟨bs x, bs y⟩ : S27)]) (a + (lineB (out.length : Int) x y).length) (by simp; omega) (by omega)).eq ?_
            have e5 : ((out ++ [(⟨bs x, bs y⟩ : S27)]).length : Int) = (out.length : Int) + 1 := by simp
            rw [e5]
            simp only [recs, ← e1, List.map_cons, lenR, List.drop_drop]
            rw [List.append_assoc, Nat.add_assoc]
            rfl
        · rw [if_neg h4] at e1
          rw [hp1 h4]
          refine Ter.ifp (by simp) ((Ter.ret _).eq ?_)
          simp only [recs, ← e1, List.map_nil, List.append_nil, lenR, Nat.add_zero]
      · refine Ter.ifn (by omega) ((hj out a).eq ?_)
        have e0 : l.drop a = [] := List.drop_eq_nil_of_le (by omega)
        simp only [recs, e0, one_nil (k := (out.length : Int)) (by omega), List.map_nil, List.append_nil, lenR, Nat.add_zero]
  unfold spec_l12Open.f
  have := key 60 [] 0 rfl (by omega)
  simpa using this

/-- The program's ends, as the printed function keeps them: behind the first one. -/
def endsI (a : Nat) (k : Int) (l : List (Bs × Bs)) : List Int := (endsR a k l).map fun (n : Nat) => (n : Int)

theorem endsI_cons (a : Nat) (k : Int) (e : Bs × Bs) (l : List (Bs × Bs)) : endsI a k (e :: l) = (a : Int) :: endsI (a + (lineB k e.1 e.2).length) (k + 1) l := rfl

theorem encB_eq {k : Int} (h0 : 0 ≤ k) (h1 : k ≤ 59) {c r : Bs} : encB k c r = if okRec c r = true then (bs (lineB k c r), true) else (bs [], false) := by
  unfold encB
  by_cases h : okRec c r = true
  · rw [if_pos ⟨⟨h0, h1⟩, h⟩, if_pos h]
  · rw [if_neg (fun e => h e.2), if_neg h]

theorem verB_len (l : Bs) : (verB l).length ≤ l.length := by
  have := (cut_len l 35).1
  unfold verB
  split
  · exact this
  · simp

set_option maxHeartbeats 1000000 in
theorem readRecords_is {l : Bs} (hl : l.length ≤ 1000000) : Ter (fun n => impl_readRecords.f n (bs l)) ((recs 60 0 l).map toRec, endsI 0 0 (recs 60 0 l)) := by
  have key : ∀ (n : Nat) (out : List S27) (en : List Int) (a : Nat), out.length + n = 60 → en.length + n ≤ 61 → a ≤ l.length → Ter (fun k => impl_readRecords.l0 k (bs l) out (en ++ [(a : Int)]) (a : Int)) (out ++ (recs n (out.length : Int) (l.drop a)).map toRec, en ++ endsI a (out.length : Int) (recs n (out.length : Int) (l.drop a))) := by
    intro n
    induction n with
    | zero =>
      intro out en a h1 h3 h4
      refine Ter.succ ?_
      simp only [impl_readRecords.l0, recs, List.map_nil, List.append_nil]
      exact Ter.ifn (by omega) (Ter.ret _)
    | succ n ih =>
      intro out en a h1 h3 h4
      refine Ter.succ ?_
      simp only [impl_readRecords.l0, bs_size, Int.toNat_natCast, bs_from]
      refine Ter.ifp (by omega) (Ter.ifp (by omega) (Ter.ifp (by omega) ?_))
      have hstop : one (out.length : Int) (l.drop a) = none → Ter (fun _ : Nat => some (out, en ++ [(a : Int)])) (out ++ (recs (n + 1) (out.length : Int) (l.drop a)).map toRec, en ++ endsI a (out.length : Int) (recs (n + 1) (out.length : Int) (l.drop a))) := by
        intro h
        refine (Ter.ret _).eq ?_
        simp only [recs, h, List.map_nil, List.append_nil]
        rfl
      have hd1 : (l.drop a).length ≤ 1000000 := by simp; omega
      generalize ht_ : l.drop a = t at hstop hd1 ⊢
      have hc1 := cut_len t 10
      rw [Cut_is t 10 (by omega)]
      simp only [Option.bind_some]
      by_cases hw : (Lib.cut t [10]).2.2 = true
      · refine Ter.ifp hw ?_
        obtain ⟨vb, hv⟩ := Verify_is (l := (Lib.cut t [10]).1) (by omega)
        refine hv.bind ?_
        have hvl := verB_len (Lib.cut t [10]).1
        have hc2 := cut_len (verB (Lib.cut t [10]).1) 32
        have hc3 := cut_len (Lib.cut (verB (Lib.cut t [10]).1) [32]).2.1 64
        simp only [Cut_is (verB (Lib.cut t [10]).1) 32 (by omega), Option.bind_some, Cut_is (Lib.cut (verB (Lib.cut t [10]).1) [32]).2.1 64 (by omega)]
        have hone : one (out.length : Int) t = if okRec (Lib.cut (Lib.cut (verB (Lib.cut t [10]).1) [32]).2.1 [64]).1 (Lib.cut (Lib.cut (verB (Lib.cut t [10]).1) [32]).2.1 [64]).2.1 = true ∧ lineB (out.length : Int) (Lib.cut (Lib.cut (verB (Lib.cut t [10]).1) [32]).2.1 [64]).1 (Lib.cut (Lib.cut (verB (Lib.cut t [10]).1) [32]).2.1 [64]).2.1 = (Lib.cut t [10]).1 ++ [10] then some ((Lib.cut (Lib.cut (verB (Lib.cut t [10]).1) [32]).2.1 [64]).1, (Lib.cut (Lib.cut (verB (Lib.cut t [10]).1) [32]).2.1 [64]).2.1) else none := by
          unfold one
          simp only [hw, if_true]
        have hcl : (Lib.cut (Lib.cut (verB (Lib.cut t [10]).1) [32]).2.1 [64]).1.length ≤ 1000000 := by omega
        have hrl : (Lib.cut (Lib.cut (verB (Lib.cut t [10]).1) [32]).2.1 [64]).2.1.length ≤ 1000000 := by omega
        clear hc3
        generalize (Lib.cut (Lib.cut (verB (Lib.cut t [10]).1) [32]).2.1 [64]).1 = c at hone hcl ⊢
        generalize (Lib.cut (Lib.cut (verB (Lib.cut t [10]).1) [32]).2.1 [64]).2.1 = r at hone hrl ⊢
        have hll : (Lib.cut t [10]).1.length ≤ 1000000 := by omega
        clear hc1 hc2 hvl hv
        generalize (Lib.cut t [10]).1 = line at hone hll ⊢
        refine (implEncode_is (out.length : Int) (by omega) (by omega)).bind ?_
        rw [encB_eq (by omega) (by omega)]
        by_cases h5 : okRec c r = true
        · rw [if_pos h5]
          simp only [lit1, bs_app, bs_size, bs_toList]
          refine Ter.ifp trivial (Ter.ifp (by omega) ?_)
          by_cases h6 : lineB (out.length : Int) c r = line ++ [10]
          · rw [if_pos ⟨h5, h6⟩] at hone
            refine Ter.ifp h6 (Ter.ifp (by omega) (Ter.ifp (by rw [List.length_append, List.length_singleton]; omega) ?_))
            have e2 := congrArg List.length h6
            simp only [List.length_append, List.length_cons, List.length_nil] at e2
            have e3 := one_len (k := (out.length : Int)) (by omega) hone
            have e3' : t.length = l.length - a := by rw [← ht_]; simp
            have e4 : wrap64 ((a : Int) + wrap64 ((line.length : Int) + 1)) = ((a + (lineB (out.length : Int) c r).length : Nat) : Int) := by
              generalize (lineB (out.length : Int) c r).length = q at e2 e3
              rw [w64 (n := (line.length : Int) + 1) (by omega) (by omega), w64 (by omega) (by omega)]
              omega
            have e6 : a + (lineB (out.length : Int) c r).length ≤ l.length := by
              generalize (lineB (out.length : Int) c r).length = q at e2 e3 ⊢
              clear e4
              omega
            rw [e4]
            refine (ih (out ++ [(⟨bs c, bs r⟩ : S27)]) (en ++ [(a : Int)]) (a + (lineB (out.length : Int) c r).length) (by rw [List.length_append, List.length_singleton]; omega) (by rw [List.length_append, List.length_singleton]; omega) e6).eq ?_
            have e5 : ((out ++ [(⟨bs c, bs r⟩ : S27)]).length : Int) = (out.length : Int) + 1 := by simp
            rw [e5]
            simp only [recs, hone, List.map_cons, endsI_cons]
            rw [← List.drop_drop, ht_, List.append_assoc, List.append_assoc]
            rfl
          · rw [if_neg (fun e => h6 e.2)] at hone
            exact Ter.ifn h6 (hstop hone)
        · rw [if_neg (fun e => h5 e.1)] at hone
          rw [if_neg h5]
          exact Ter.ifn (by decide) (hstop hone)
      · have hone : one (out.length : Int) t = none := by unfold one; rw [if_neg hw]
        exact Ter.ifn hw (hstop hone)
  unfold impl_readRecords.f
  have := key 60 [] [] 0 rfl (by simp) (by omega)
  simpa using this
end Go.Proofs.YtnjambhlblngcaaDoor.P
namespace Go.Proofs.YtnjambhlblngcaaDoor.P
open Go.RowKit Go.Proofs.YtnjambhlblngcaaDoorW.PrintWords Go.Proofs.YtnjambhlblngcaaDoorW.PrintLast Go.Proofs.YtnjambhlblngcaaDoorW.PrintMore
set_option linter.unusedVariables false
set_option linter.unusedSimpArgs false

theorem index_is (x : Int) (l : List Int) (hl : l.length ≤ 1000) : ∃ r : Int, Ter (fun k => slices_Index_int_int.f k l x) r ∧ (0 ≤ r ↔ x ∈ l) := by
  have key := down_ (Q := fun i => ∃ r : Int, Ter (fun k => slices_Index_int_int.l0 k l x (l.length : Int) (i : Int)) r ∧ (0 ≤ r ↔ x ∈ l.drop i)) l.length
    ⟨-1, Ter.succ (by simp only [slices_Index_int_int.l0]; exact Ter.ifn (by omega) (Ter.ret _)), by rw [List.drop_length]; simp⟩
    (fun i hi ih => by
      have hd : l.drop i = l[i] :: l.drop (i + 1) := List.drop_eq_getElem_cons hi
      by_cases h : x = l[i]
      · refine ⟨(i : Int), Ter.succ ?_, ⟨fun _ => by rw [hd, ← h]; exact List.mem_cons_self .., fun _ => by omega⟩⟩
        simp only [slices_Index_int_int.l0]
        exact Ter.ifp (by omega) (Ter.ifp (by omega) (Ter.ifp (by omega) (Ter.ifp (by rw [rd_at hi]; exact h) (Ter.ret _))))
      · obtain ⟨r, h1, h2⟩ := ih
        refine ⟨r, Ter.succ ?_, by rw [hd, List.mem_cons]; constructor; (· intro e; exact .inr (h2.1 e)); (· rintro (e | e); exact absurd e h; exact h2.2 e)⟩
        simp only [slices_Index_int_int.l0]
        refine Ter.ifp (by omega) (Ter.ifp (by omega) (Ter.ifp (by omega) (Ter.ifn (by rw [rd_at hi]; exact h) ?_)))
        rw [w64s hi (by omega)]
        exact h1) 0 (by omega)
  obtain ⟨r, h1, h2⟩ := key
  exact ⟨r, h1, by simpa using h2⟩

theorem contains_is (x : Int) (l : List Int) (hl : l.length ≤ 1000) : Ter (fun k => slices_Contains_int_int.f k l x) (decide (x ∈ l)) := by
  obtain ⟨r, h1, h2⟩ := index_is x l hl
  unfold slices_Contains_int_int.f
  refine h1.bind ((Ter.ret _).eq ?_)
  rw [decide_eq_decide]
  exact h2

/-- A log is valid. -/
def validB (D P : Bs) (n : Int) : Bool := decide (D.length + P.length ≤ 30000) && (decide (lenR 0 (recs 60 0 (D ++ P)) = D.length + P.length) && (decide (lenR 0 (recs 60 0 D) = D.length) && decide (((recs 60 0 (D ++ P)).length : Int) = n)))

theorem Ter.some_ {α : Type} {a b : α} (h : a = b) : Ter (fun _ => some a) b := (Ter.ret _).eq h

theorem specValid_is {D P : Bs} (n : Int) (hD : D.length ≤ 1048576) (hP : P.length ≤ 1048576) : Ter (fun k => spec_l12Valid.f k (bs D) (bs P) n) (validB D P n) := by
  unfold spec_l12Valid.f validB
  simp only [bs_size, bs_app, w64 (n := (D.length : Int) + (P.length : Int)) (by omega) (by omega)]
  by_cases h1 : D.length + P.length ≤ 30000
  · refine Ter.ifn (by omega) (Ter.ifp (by omega) ?_)
    refine (l12Open_is (l := D ++ P) (by rw [List.length_append]; omega)).bind ((l12Open_is (l := D) (by omega)).bind ?_)
    simp only [h1, decide_true, Bool.true_and]
    by_cases h2 : lenR 0 (recs 60 0 (D ++ P)) = D.length + P.length
    · refine Ter.ifp (by rw [h2]; omega) ?_
      by_cases h3 : lenR 0 (recs 60 0 D) = D.length
      · refine Ter.ifp (by rw [h3]) (Ter.some_ ?_)
        simp only [h2, h3, decide_true, Bool.true_and, List.length_map]
        by_cases h4 : ((recs 60 0 (D ++ P)).length : Int) = n <;> simp [h4]
      · exact Ter.ifn (by omega) (Ter.some_ (by simp [h3]))
    · exact Ter.ifn (by omega) (Ter.some_ (by simp [h2]))
  · exact Ter.ifp (by omega) (Ter.some_ (by simp [h1]))

theorem endsI_len (l : List (Bs × Bs)) : (endsI 0 0 l).length = l.length + 1 := by unfold endsI; rw [List.length_map, endsR_len]

theorem endsI_last (l : List (Bs × Bs)) : rd (endsI 0 0 l) (l.length : Int) = (lenR 0 l : Int) := by
  unfold rd endsI
  rw [List.getD_eq_getElem?_getD, List.getElem?_map, Int.toNat_natCast, endsR_last]
  simp

theorem endsI_mem (l : List (Bs × Bs)) (n : Nat) : (n : Int) ∈ endsI 0 0 l ↔ n ∈ endsR 0 0 l := by
  unfold endsI
  rw [List.mem_map]
  constructor
  · rintro ⟨m, hm, e⟩
    obtain rfl : m = n := by omega
    exact hm
  · intro h
    exact ⟨n, h, rfl⟩

theorem implValid_is {D P : Bs} (n : Int) (hD : D.length ≤ 1048576) (hP : P.length ≤ 1048576) : Ter (fun k => impl_IsValidLog.f k (bs D) (bs P) n) (validB D P n) := by
  unfold impl_IsValidLog.f validB
  simp only [bs_size, bs_app, w64 (n := (D.length : Int) + (P.length : Int)) (by omega) (by omega)]
  by_cases h1 : D.length + P.length ≤ 30000
  · refine Ter.ifn (by omega) (Ter.ifp (by omega) ?_)
    refine (readRecords_is (l := D ++ P) (by rw [List.length_append]; omega)).bind ?_
    simp only [h1, decide_true, Bool.true_and, List.length_map, endsI_len, endsI_last]
    have hm := endsI_mem (recs 60 0 (D ++ P)) D.length
    have he := ends_iff 60 0 0 D P (by omega) (by omega)
    rw [Nat.zero_add] at he
    have hl := recs_len 60 0 (D ++ P)
    refine Ter.ifp (by omega) (Ter.ifp (by omega) ?_)
    by_cases h2 : lenR 0 (recs 60 0 (D ++ P)) = D.length + P.length
    · refine Ter.ifp (by rw [h2]; omega) ?_
      by_cases h4 : ((recs 60 0 (D ++ P)).length : Int) = n
      · refine Ter.ifp h4.symm ((contains_is _ _ (by rw [endsI_len]; omega)).bind (Ter.some_ ?_))
        simp only [h2, h4, decide_true, Bool.true_and, Bool.and_true, decide_eq_decide]
        exact hm.trans he
      · exact Ter.ifn (fun e => h4 e.symm) (Ter.some_ (by simp [h4]))
    · exact Ter.ifn (by omega) (Ter.some_ (by simp [h2]))
  · exact Ter.ifp (by omega) (Ter.some_ (by simp [h1]))

theorem szLog_is {c r : Bs} {a n : Int} (h0 : 0 ≤ a) (h1 : a ≤ 1048576) (hc : c.length ≤ maxLen) (hr : r.length ≤ maxLen) : ∃ t, laws_szLog.f (bs c) (bs r) n a = some t ∧ (t < 0 ∨ (0 ≤ t ∧ t ≤ a ∧ c.length ≤ 1048576 ∧ r.length ≤ 1048576)) := by
  rw [maxLen_] at hc hr
  unfold laws_szLog.f
  rw [bs_size, bs_size, w64 (n := a - (c.length : Int)) (by omega) (by omega)]
  by_cases h : a - (c.length : Int) < 0
  · rw [if_pos h]; exact ⟨_, rfl, .inl (by omega)⟩
  · rw [if_neg h, w64 (by omega) (by omega)]
    by_cases h2 : a - (c.length : Int) - (r.length : Int) < 0
    · rw [if_pos h2]; exact ⟨_, rfl, .inl (by omega)⟩
    · rw [if_neg h2]; exact ⟨_, rfl, .inr (by omega)⟩
end Go.Proofs.YtnjambhlblngcaaDoor.P
namespace Go.Proofs.YtnjambhlblngcaaDoor.P
open Go.RowKit Go.Proofs.YtnjambhlblngcaaDoorW.PrintWords Go.Proofs.YtnjambhlblngcaaDoorW.PrintLast Go.Proofs.YtnjambhlblngcaaDoorW.PrintMore
set_option linter.unusedVariables false
set_option linter.unusedSimpArgs false

theorem toLog_is (a b : ByteArray) (n : Int) : laws_toLog.f a b n = some (a, b, n) := rfl

theorem flip_app (A B : Bs) (t : Bool) (h : t = true → B ≠ []) : A ++ flipB B t = flipB (A ++ B) t := by
  cases t with
  | false => rfl
  | true =>
    have hB : B.length ≠ 0 := fun e => h rfl (List.eq_nil_of_length_eq_zero e)
    show A ++ B.set (B.length - 1) (255 - B.getD (B.length - 1) 0) = (A ++ B).set ((A ++ B).length - 1) (255 - (A ++ B).getD ((A ++ B).length - 1) 0)
    have e1 : (A ++ B).length - 1 = A.length + (B.length - 1) := by rw [List.length_append]; omega
    rw [e1, List.set_append_right _ _ (by omega), Nat.add_sub_cancel_left]
    congr 3
    rw [List.getD_eq_getElem?_getD, List.getD_eq_getElem?_getD, List.getElem?_append_right (by omega), Nat.add_sub_cancel_left]

theorem specCrash_is {D P : Bs} {n : Int} {b : Bool} (a1 : Int) (a2 : Bool) (h : Ter (fun k => spec_l12Valid.f k (bs D) (bs P) n) b) (hD : D.length ≤ 1048576) (hP : P.length ≤ 1048576) : Ter (fun k => spec_CrashLog.f k (bs D) (bs P) n a1 a2) (if b = true ∧ 0 ≤ a1 ∧ a1 ≤ (P.length : Int) then (bs (flipB (D ++ P.take a1.toNat) (a2 && decide (0 < a1))), true) else (bs [], false)) := by
  unfold spec_CrashLog.f
  refine h.bind ?_
  rw [bs_size, bs_size, bs_list, bs_list]
  by_cases hr : b = true ∧ 0 ≤ a1 ∧ a1 ≤ (P.length : Int)
  · simp only [if_pos hr]
    refine Ter.ifp (by omega) (Ter.some_ ?_)
    rw [flip_app]
    intro ht
    simp only [Bool.and_eq_true, decide_eq_true_eq] at ht
    intro e
    have := congrArg List.length e
    rw [List.length_take, List.length_nil] at this
    omega
  · simp only [if_neg hr]
    exact Ter.ret _

theorem implCrash_is {D P : Bs} {n : Int} {b : Bool} (a1 : Int) (a2 : Bool) (h : Ter (fun k => impl_IsValidLog.f k (bs D) (bs P) n) b) (hD : D.length ≤ 1048576) (hP : P.length ≤ 1048576) : Ter (fun k => impl_CrashLog.f k (bs D) (bs P) n a1 a2) (if b = true ∧ 0 ≤ a1 ∧ a1 ≤ (P.length : Int) then (bs (flipB (D ++ P.take a1.toNat) (a2 && decide (0 < a1))), true) else (bs [], false)) := by
  unfold impl_CrashLog.f
  refine h.bind ?_
  rw [bs_size, bs_size, bs_list, bs_list]
  by_cases hr : b = true ∧ 0 ≤ a1 ∧ a1 ≤ (P.length : Int)
  · simp only [if_pos hr]
    exact Ter.ifp (by omega) (Ter.ret _)
  · simp only [if_neg hr]
    exact Ter.ret _

theorem FnExactCrashLog.pure (a0_0 : ByteArray) (a0_1 : ByteArray) (a0_2 : Int) (a1 : Int) (a2 : Bool) (W1 : a0_0.size ≤ maxLen) (W2 : a0_1.size ≤ maxLen) (W3 : (Lit.int .i64 a0_2).wf = true) (W4 : (Lit.int .i64 a1).wf = true) : ∃ k, laws_FnExactCrashLog.f k a0_0 a0_1 a0_2 a1 a2 = some true := by
  obtain ⟨D, rfl⟩ : ∃ l, a0_0 = bs l := ⟨_, bs_of _⟩
  obtain ⟨P, rfl⟩ : ∃ l, a0_1 = bs l := ⟨_, bs_of _⟩
  rw [bs_size] at W1 W2
  have key : Ter (fun k => laws_FnExactCrashLog.f k (bs D) (bs P) a0_2 a1 a2) true := by
    obtain ⟨t, ht, h⟩ := szLog_is (c := D) (r := P) (a := 1048576) (n := a0_2) (by omega) (by omega) W1 W2
    unfold laws_FnExactCrashLog.f
    refine Ter.bind (Ter.const ht) ?_
    rcases h with h | ⟨h1, h2, h3, h4⟩
    · exact Ter.ifp h (Ter.ret _)
    · refine Ter.ifn (by omega) ?_
      have hs := specCrash_is a1 a2 (specValid_is a0_2 h3 h4) h3 h4
      have hi := implCrash_is a1 a2 (implValid_is a0_2 h3 h4) h3 h4
      generalize (if validB D P a0_2 = true ∧ 0 ≤ a1 ∧ a1 ≤ (P.length : Int) then (bs (flipB (D ++ P.take a1.toNat) (a2 && decide (0 < a1))), true) else (bs [], false)) = r at hs hi
      exact Ter.bind (Ter.const (toLog_is _ _ _)) (Ter.bind hs (Ter.bind (Ter.const (toLog_is _ _ _)) (Ter.bind hi (Ter.ifp rfl (Ter.ifn (by simp) (Ter.ret _))))))
  obtain ⟨K, h⟩ := key
  exact ⟨K, h K (Nat.le_refl _)⟩
end Go.Proofs.YtnjambhlblngcaaDoor.P
namespace Go.Proofs.YtnjambhlblngcaaDoor.fnExactCrashLog
open Go.ChangeShapes Go.WideShapes Go.ChangeAt Go.RowKit
open Go.ChangeMaps (open_string shut_string)
open Go.Proofs.YtnjambhlblngcaaDoor.P Go.Proofs.YtnjambhlblngcaaDoor.laidRow Go.Proofs.YtnjambhlblngcaaDoorW.PrintWords Go.Proofs.YtnjambhlblngcaaDoorW.PrintLast Go.Proofs.YtnjambhlblngcaaDoorW.PrintMore
set_option linter.unusedVariables false

theorem call (a0_0 : ByteArray) (a0_1 : ByteArray) (a0_2 : Int) (a1 : Int) (a2 : Bool) (w : World) (ht : TabOK w) (W_0 : a0_0.size ≤ maxLen) (W_1 : a0_1.size ≤ maxLen) (W_2 : (Lit.int .i64 a0_2).wf = true) (W_3 : (Lit.int .i64 a1).wf = true) :
    Calls Tryd.prog 6 #[.agg #[.string a0_0, .string a0_1, .int .i64 a0_2], .int .i64 a1, .bool a2] w fun e w' => e = .returned (.bool true) ∧ Below w.heap.size w w' := by
  obtain ⟨k, hk⟩ := P.FnExactCrashLog.pure a0_0 a0_1 a0_2 a1 a2 W_0 W_1 W_2 W_3
  exact P.laws_FnExactCrashLog.calls k a0_0 a0_1 a0_2 a1 a2 true w ht hk

set_option maxRecDepth 100000 in
theorem contract (H : Type) (enc : TypeId × Value → H) (W : World) (base : Nat) (args : Array Value) (ds gs : List (DataW H)) (before : List MemPlace)
    (hval : ∀ (j : Nat) t v, Tryd.f6.params[j]? = some t → args[j]? = some v → Value.okWide Tryd.prog W .any base t v)
    (hW : DataW.Whole enc Tryd.prog Tryd.f6.params.toList Rows.fnExactCrashLogSpec.vars false W args.toList ds gs before) (hL : laidMetH Tryd.prog Rows.fnExactCrashLogRow.laid W) (hsh : W.ShapedOpen Tryd.prog) :
    Calls Tryd.prog 6 args W fun e W' => ∃ v, e = .returned v ∧ Rows.fnExactCrashLogSpec.post enc Tryd.prog Tryd.f6 false true false false W args v W' := by
  have hW' := hW
  obtain ⟨p, q, hA0, hV, rfl, hfz, hnd⟩ := hW
  have hA : DataW.TrodAll enc Tryd.prog W 0 (fun _ => true) true Tryd.f6.params.toList args.toList ds p := hA0
  rw [Tryd.params6] at hA hval
  obtain ⟨v0, vs0, d0, ds0, p0, q0, hargs, rfl, rfl, h0, r0⟩ := trodAll_cons hA
  obtain ⟨v1, vs1, d1, ds1, p1, q1, rfl, rfl, rfl, h1, r1⟩ := trodAll_cons r0
  obtain ⟨v2, vs2, d2, ds2, p2, q2, rfl, rfl, rfl, h2, r2⟩ := trodAll_cons r1
  obtain ⟨rfl, rfl, rfl⟩ := trodAll_nil r2
  obtain rfl : args = #[v0, v1, v2] := by cases args; simp_all
  obtain ⟨rfl, rfl⟩ := trodVars_none hV
  obtain ⟨cs0, rfl, _⟩ := okWide_struct Tryd.underlying36 (hval 0 36 v0 rfl rfl)
  have k0 := h0
  have lt0 : ∀ x ∈ p0, x.block < W.heap.size := by obtain ⟨m, hm⟩ := k0; exact DataW.trod_lt m _ _ _ hm
  obtain ⟨a0_0, a0_1, a0_2, e0, W0_0, W0_1, W0_2, _⟩ : ∃ (a0_0 : ByteArray) (a0_1 : ByteArray) (a0_2 : Int), cs0 = #[.string a0_0, .string a0_1, .int .i64 a0_2] ∧ a0_0.size ≤ maxLen ∧ a0_1.size ≤ maxLen ∧ (Lit.int .i64 a0_2).wf = true ∧ True := by
    obtain ⟨fuel, hf⟩ := h0
    obtain ⟨a0_0, a0_1, a0_2, e_, r_⟩ := P.cells_36 hf
    refine ⟨a0_0, a0_1, a0_2, ?_, r_⟩
    exact Array.toList_inj.1 e_
  subst e0
  obtain ⟨a1, rfl, rfl, rfl, W1⟩ := open_int Tryd.underlying3 (hval 1 3 v1 rfl rfl) h1
  obtain ⟨a2, rfl, rfl, rfl⟩ := open_bool Tryd.underlying4 (hval 2 4 v2 rfl rfl) h2
  clear hA0 hval
  refine (call a0_0 a0_1 a0_2 a1 a2 W  (tabOK hL hsh) W0_0 W0_1 W0_2 W1).mono fun e W' ⟨he, bel⟩ => ?_
  subst he
  exact ⟨_, rfl, _, _, _, [], _, [], hW', trodAll_mk1 (shut_bool Tryd.underlying4 _), (trodAll_cons_mk (Below.trod laidOut (by kernel_rfl) (of_decide_eq_true (by kernel_rfl)) k0 bel lt0) (trodAll_cons_mk (shut_int Tryd.underlying3 W1) (trodAll_cons_mk (shut_bool Tryd.underlying4 _) trodAll_mk0))), rfl, bel.frame _, fun h => by cases h⟩

set_option maxRecDepth 100000 in
theorem laid_met (os : Os) : laidMet Tryd.prog Rows.fnExactCrashLogRow.laid ((laidWorld os).forCall (fun _ _ => 0) ⟨#[], #[.agg #[.string ByteArray.empty, .string ByteArray.empty, .int .i64 0], .int .i64 0, .bool false], []⟩).memory :=
  laidMet_of_run' 8 (by kernel_rfl) (by kernel_rfl)

set_option maxRecDepth 100000 in
theorem reads (os : Os) {H : Type} (enc : TypeId × Value → H) : ∃ places, DataW.whole enc Tryd.prog ((laidWorld os).forCall (fun _ _ => 0) ⟨#[], #[.agg #[.string ByteArray.empty, .string ByteArray.empty, .int .i64 0], .int .i64 0, .bool false], []⟩).memory Tryd.f6.params.toList Rows.fnExactCrashLogSpec.vars false (#[.agg #[.string ByteArray.empty, .string ByteArray.empty, .int .i64 0], .int .i64 0, .bool false] : Array Value).toList 8 = some ([.agg [.lit (.string []), .lit (.string []), .lit (.int .i64 0)], .lit (.int .i64 0), .lit (.bool false)], [], places) :=
  ⟨[], by kernel_rfl⟩

set_option maxRecDepth 100000 in
set_option maxHeartbeats 2000000 in
theorem lifted (os : Os) (started : os.Started) (H : Type) (enc : TypeId × Value → H) (F : Stop.Interp) :
    ReturnsInHanded {} Tryd.checked os 6 .any ((OpenSpec.ofChange Rows.fnExactCrashLogSpec).preRow enc Tryd.prog Tryd.f6 Rows.fnExactCrashLogRow.domain false Rows.fnExactCrashLogRow.laid) (((OpenSpec.ofChange Rows.fnExactCrashLogSpec).at F).post enc Tryd.prog Tryd.f6 false true false false) := by
  obtain ⟨places, hx⟩ := reads os enc
  refine returnsInHanded_of_row (C := Tryd.checked) (s := OpenSpec.ofChange Rows.fnExactCrashLogSpec) own started (by kernel_rfl) Tryd.func6
    (witness_row_at (enc := enc) (C := Tryd.checked) false (laidWorld os) #[.agg #[.string ByteArray.empty, .string ByteArray.empty, .int .i64 0], .int .i64 0, .bool false] rfl (by kernel_rfl) (by kernel_rfl) (by kernel_rfl)
      (OpenSpec.preRow_of_cond 8 hx (by kernel_rfl) (fun k hk => by cases hk) (by kernel_rfl) (laid_met os))) ?_
  intro W base args ds gs before hval hW _ _ _ hL hsh _
  exact contract H enc W base args ds gs before hval hW hL hsh

set_option maxRecDepth 100000 in
theorem cl1 : Tryd.pinned.checked.prog.funcNamed Rows.fnExactCrashLogRow.func = some 6 := by kernel_rfl

theorem cl2 : joinedFacts Tryd.pinned.checked.prog 6 Tryd.f6 Rows.fnExactCrashLogSpec Rows.fnExactCrashLogRow = true := by kernel_rfl

theorem cl3 : Tryd.f6.isInstance Tryd.pinned.checked.prog Rows.fnExactCrashLogRow.origin Rows.fnExactCrashLogRow.targs := of_decide_eq_true (by kernel_rfl)

theorem cl4 : Tryd.f6.isWrapper Tryd.pinned.checked.prog Rows.fnExactCrashLogRow.wrapper Rows.fnExactCrashLogRow.mainSum := (by unfold Func.isWrapper; first | (rw [if_pos (by decide +kernel)]; kernel_rfl) | (rw [if_neg (by decide +kernel)]; exact ⟨rfl, rfl⟩))

theorem said : Rows.FnExactCrashLogSaid :=
  OpenClaim.holds_of_cond 6 Tryd.f6 rfl rfl rfl rfl rfl rfl rfl ⟨rfl, rfl, rfl, rfl, rfl⟩ rfl rfl rfl rfl rfl cl1 Tryd.func6 cl2 cl3 cl4
    (fun os started H enc _ F => by rw [OpenClaim.pre_eq_preRow]; exact lifted os started H enc F)

theorem plain (f : FuncId) (fn : Func) (hf : Tryd.pinned.checked.prog.funcNamed Rows.fnExactCrashLogRow.func = some f) (hfn : Tryd.pinned.checked.prog.funcs[f]? = some fn) :
    false = Tryd.pinned.checked.prog.looks [] ∧ ∀ (j : Nat) t, fn.params[j]? = some t → Tryd.pinned.checked.prog.wantsStandIn t = false := by
  obtain rfl : f = 6 := Option.some.inj (cl1.symm.trans hf) |>.symm
  obtain rfl : fn = Tryd.f6 := (Option.some.inj (Tryd.func6.symm.trans hfn)).symm
  refine ⟨by kernel_rfl, fun j t ht => ?_⟩
  rw [Tryd.params6] at ht
  have hm := Array.mem_of_getElem? ht
  have hm2 : t = 36 ∨ t = 3 ∨ t = 4 := by simpa using hm
  rcases hm2 with rfl | rfl | rfl
  · exact (show Tryd.prog.wantsStandIn 36 = false by kernel_rfl)
  · exact (show Tryd.prog.wantsStandIn 3 = false by kernel_rfl)
  · exact (show Tryd.prog.wantsStandIn 4 = false by kernel_rfl)

theorem card : Rows.FnExactCrashLogCardSaid :=
  Claim7.holds_tied_plain_at .later [] _ _ _ _ said (fun _ h => by cases h) (by kernel_rfl) (fun _ h => by cases h) fnExactCrashLog_row_tie rfl ⟨rfl, rfl⟩ (by kernel_rfl) rfl plain (by kernel_rfl)
#print axioms card
end Go.Proofs.YtnjambhlblngcaaDoor.fnExactCrashLog
namespace Go.Proofs.YtnjambhlblngcaaDoor

/-- The card, under a short name, for the claim. -/
theorem fnExactCrashLog_holds : Rows.FnExactCrashLogCardSaid := fnExactCrashLog.card
end Go.Proofs.YtnjambhlblngcaaDoor
