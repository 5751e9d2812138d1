/- This text proves the given statement of the law FnExactIsValidConsole: for every input the law returns true and its arguments read afterwards as before. Conditions: those of the given row and no other. -/
import Derived.Test.YtaceoijcjkbgfaaDoorCFnExactIsValidConsole3
import Derived.Lib.IndexMore
import Derived.Lib.ItoaNum
import Derived.Lib.IndexAny
import Derived.Test.YtaceoijcjkbgfaaDoorRows
import Derived.Test.YtaceoijcjkbgfaaDoorCards
import Derived.Test.YtaceoijcjkbgfaaDoorTie
import Derived.WalkKit
import Derived.ProofKit
import Derived.OpenShut
import Derived.ShutString
import Derived.ChangeOld
import Derived.Below
import Derived.SizedLaws
import Derived.Deep.DeepHandedRow
import Derived.Lib.LaidTab
namespace Go.Proofs.YtaceoijcjkbgfaaDoor.P
open Go.RowKit Go.Proofs.YtaceoijcjkbgfaaDoorW.PrintWords Go.Proofs.YtaceoijcjkbgfaaDoorW.PrintLast Go.Proofs.YtaceoijcjkbgfaaDoorW.PrintMore
attribute [local go_sem] max2_int min2_int max_two min_two max_three min_three max_four min_four   -- for this text's walks alone
set_option linter.unusedVariables false
set_option linter.unusedSimpArgs false

def impl_IsValidConsole.f (k : Nat) (l0_0 : List (List Int)) (l0_1 : List (S126)) (a0_2 : Int) (a0_3 : ByteArray) (a0_4 : ByteArray) (a0_5 : Int) : Option (Bool) := (impl_IsDesk.f k l0_0 l0_1 a0_2).bind fun t333 => (if t333 = true then ((impl_IsValidLog.f k a0_3 a0_4 a0_5).bind fun t334 => (some t334)) else (some false))

set_option maxHeartbeats 8000000 in
set_option maxRecDepth 100000 in
theorem impl_IsValidConsole.calls (k : Nat) (A0_0 : Option Addr) (c0_0 : Nat) (l0_0 : List (List Int)) (A0_1 : Option Addr) (c0_1 : Nat) (l0_1 : List (S126)) (a0_2 : Int) (a0_3 : ByteArray) (a0_4 : ByteArray) (a0_5 : Int) (r : Bool) (w : World) (hr0_0 : Kd.C (Kd.slice 5 (Kd.int .u8)) w A0_0 l0_0.length l0_0) (hc0_0 : l0_0.length ≤ c0_0) (hr0_1 : Kd.C k126 w A0_1 l0_1.length l0_1) (hc0_1 : l0_1.length ≤ c0_1) (ht : TabOK w) (h : impl_IsValidConsole.f k l0_0 l0_1 a0_2 a0_3 a0_4 a0_5 = some r) :
    Calls Tryd.prog 9 #[.agg #[.slice A0_0 l0_0.length c0_0, .slice A0_1 l0_1.length c0_1, .int .i64 a0_2, .string a0_3, .string a0_4, .int .i64 a0_5]] w fun e w' => e = .returned (.bool r) ∧ Below w.heap.size w w' := by
  have hu40 := Tryd.underlying40
  have hu37 := Tryd.underlying37
  have hu38 := Tryd.underlying38
  have HT := Aside0.mk ht
  clear ht
  have HR0_0 := Aside0.mk hr0_0
  have HC0_0 := Aside0.mk hc0_0
  clear hr0_0 hc0_0
  have HR0_1 := Aside0.mk hr0_1
  have HC0_1 := Aside0.mk hc0_1
  clear hr0_1 hc0_1
  have HB := Aside0.mk (Below.refl w.heap.size w)
  have H : ((impl_IsDesk.f k l0_0 l0_1 a0_2).bind fun t333 => (if t333 = true then ((impl_IsValidLog.f k a0_3 a0_4 a0_5).bind fun t334 => (some t334)) else (some false))) = some r := h
  clear h
  replace H := Option.bind_eq_some_iff.mp H
  obtain ⟨t333, A20, H⟩ := H
  replace H : (if t333 = true then ((impl_IsValidLog.f k a0_3 a0_4 a0_5).bind fun t334 => (some t334)) else (some false)) = some r := H
  have A2 := Aside0.mk A20
  clear A20
  by_cases c3 : t333 = true
  · subst c3
    have H1 : ((impl_IsValidLog.f k a0_3 a0_4 a0_5).bind fun t334 => (some t334)) = some r := by rw [if_pos rfl] at H; exact H
    clear H
    have H := H1
    clear H1
    replace H := Option.bind_eq_some_iff.mp H
    obtain ⟨t334, A40, H⟩ := H
    replace H : (some t334) = some r := H
    have A4 := Aside0.mk A40
    clear A40
    obtain rfl := Option.some.inj H
    go_enter Tryd.func9, Tryd.ntmps9
    go_wp2_with (first | ((with_reducible refine gate_dst (N := 1) rfl ?_); refine box_event ?hg (N := 1) ?hd (cs := #[.slice A0_0 l0_0.length c0_0, .slice A0_1 l0_1.length c0_1, .int .i64 a0_2, .string a0_3, .string a0_4, .int .i64 a0_5]) (t := 40) ?hr ?_; (case hd => rfl); (case hg => rfl); (case hr => first | (go_simp; done) | (go_simp; rfl)); intro gb332 hg w5 hbox hb; have n0_ := Aside0.mk (below_step (by repeat (first | (with_reducible first | exact HB.out | apply below_alloc | apply pw_below_drewN | apply below_drew1) | exact HB.out)) hb); have n1_ := Aside0.mk (hbox); have n2_ := Aside0.mk ((by rw [hg]; exact (below_size (by repeat (first | (with_reducible first | exact HB.out | apply below_alloc | apply pw_below_drewN | apply below_drew1) | exact HB.out))) : w.heap.size ≤ gb332)); have n3_ := Aside0.mk ((by rw [hg]; exact (below_size (by repeat (first | (with_reducible first | exact HB.out | apply below_alloc | apply pw_below_drewN | apply below_drew1) | exact HB.out))) : w.heap.size ≤ gb332)); clear HB; have HB := n0_; have BK332 := n1_; have GW332 := n2_; have GE332 := n3_; clear n0_ n1_ n2_ n3_; clear hb hbox hg; have hcz6_0 : w5.cell? ⟨gb332, 0, none⟩ = some (.slice A0_0 l0_0.length c0_0) := (blk_cell BK332.out 0).trans rfl; have hcz6_1 : w5.cell? ⟨gb332, 1, none⟩ = some (.slice A0_1 l0_1.length c0_1) := (blk_cell BK332.out 1).trans rfl; have hcz6_2 : w5.cell? ⟨gb332, 2, none⟩ = some (.int .i64 a0_2) := (blk_cell BK332.out 2).trans rfl; have hcz6_3 : w5.cell? ⟨gb332, 3, none⟩ = some (.string a0_3) := (blk_cell BK332.out 3).trans rfl; have hcz6_4 : w5.cell? ⟨gb332, 4, none⟩ = some (.string a0_4) := (blk_cell BK332.out 4).trans rfl; have hcz6_5 : w5.cell? ⟨gb332, 5, none⟩ = some (.int .i64 a0_5) := (blk_cell BK332.out 5).trans rfl; have hfz6_0 := blk_frozen BK332.out 0; have hfz6_1 := blk_frozen BK332.out 1; have hfz6_2 := blk_frozen BK332.out 2; have hfz6_3 := blk_frozen BK332.out 3; have hfz6_4 := blk_frozen BK332.out 4; have hfz6_5 := blk_frozen BK332.out 5) | ((with_reducible refine gate_callee (f := 42) rfl ?_); refine goesL_ (some 5) rfl rfl Tryd.func42 (by kernel_rfl) rfl #[.agg #[.slice A0_0 l0_0.length c0_0, .slice A0_1 l0_1.length c0_1, .int .i64 a0_2]] rfl (by (try simp only [List.map_toArray, List.map_cons, List.map_nil]); first | done | rfl | (simp only [List.length_drop, List.length_take]; rfl)) ?_; (with_reducible refine (impl_IsDesk.calls k _ _ l0_0 _ _ l0_1 a0_2 true _ ?side1 ?side2 ?side3 ?side4 A2.out).mono ?_); (case side1 => repeat (first | exact (Kd.C_below HR0_0.out HB.out) | (with_reducible refine Kd.C_alloc ?_ _) | (with_reducible refine Kd.C_drewN ?_ _) | (with_reducible refine Kd.C_drew ?_))); (case side2 => exact HC0_0.out); (case side3 => repeat (first | exact (Kd.C_below HR0_1.out HB.out) | (with_reducible refine Kd.C_alloc ?_ _) | (with_reducible refine Kd.C_drewN ?_ _) | (with_reducible refine Kd.C_drew ?_))); (case side4 => exact HC0_1.out); rintro e w7 ⟨rfl, hb⟩; refine ⟨_, rfl, ?_⟩; have n0_ := Aside0.mk (blk_below (g := gb332) (o := .cells #[.slice A0_0 l0_0.length c0_0, .slice A0_1 l0_1.length c0_1, .int .i64 a0_2, .string a0_3, .string a0_4, .int .i64 a0_5] 40 (0, 0)) (by (with_reducible repeat (first | refine blk_drewN ?_ _ | refine blk_drew ?_ | refine blk_alloc ?_ _)); exact BK332.out) hb); have n1_ := Aside0.mk (below_step (by repeat (first | (with_reducible first | exact HB.out | apply below_alloc | apply pw_below_drewN | apply below_drew1 | refine below_set ?_ GE332.out) | exact HB.out)) hb); clear BK332; clear HB; have BK332 := n0_; have HB := n1_; clear n0_ n1_; (try clear hb); (try clear hb2); (try clear hk); (try clear hi); have hcz8_0 : w7.cell? ⟨gb332, 0, none⟩ = some (.slice A0_0 l0_0.length c0_0) := (blk_cell BK332.out 0).trans rfl; have hcz8_1 : w7.cell? ⟨gb332, 1, none⟩ = some (.slice A0_1 l0_1.length c0_1) := (blk_cell BK332.out 1).trans rfl; have hcz8_2 : w7.cell? ⟨gb332, 2, none⟩ = some (.int .i64 a0_2) := (blk_cell BK332.out 2).trans rfl; have hcz8_3 : w7.cell? ⟨gb332, 3, none⟩ = some (.string a0_3) := (blk_cell BK332.out 3).trans rfl; have hcz8_4 : w7.cell? ⟨gb332, 4, none⟩ = some (.string a0_4) := (blk_cell BK332.out 4).trans rfl; have hcz8_5 : w7.cell? ⟨gb332, 5, none⟩ = some (.int .i64 a0_5) := (blk_cell BK332.out 5).trans rfl; have hfz8_0 := blk_frozen BK332.out 0; have hfz8_1 := blk_frozen BK332.out 1; have hfz8_2 := blk_frozen BK332.out 2; have hfz8_3 := blk_frozen BK332.out 3; have hfz8_4 := blk_frozen BK332.out 4; have hfz8_5 := blk_frozen BK332.out 5) | (go_at_call 23; (with_reducible refine (impl_IsValidLog.calls k a0_3 a0_4 a0_5 t334 _ ?side1 A4.out).mono ?_); (case side1 => exact TabOK.below HT.out (by repeat (first | (with_reducible first | exact HB.out | apply below_alloc | apply pw_below_drewN | apply below_drew1 | refine below_set ?_ GE332.out) | exact HB.out))); rintro e w9 ⟨rfl, hb⟩; have n0_ := Aside0.mk (blk_below (g := gb332) (o := .cells #[.slice A0_0 l0_0.length c0_0, .slice A0_1 l0_1.length c0_1, .int .i64 a0_2, .string a0_3, .string a0_4, .int .i64 a0_5] 40 (0, 0)) (by (with_reducible repeat (first | refine blk_drewN ?_ _ | refine blk_drew ?_ | refine blk_alloc ?_ _)); exact BK332.out) hb); have n1_ := Aside0.mk (below_step (by repeat (first | (with_reducible first | exact HB.out | apply below_alloc | apply pw_below_drewN | apply below_drew1 | refine below_set ?_ GE332.out) | exact HB.out)) hb); clear BK332; clear HB; have BK332 := n0_; have HB := n1_; clear n0_ n1_; (try clear hb); (try clear hb2); (try clear hk); (try clear hi)))
    go_ret
    exact ⟨by first | rfl | (simp [errW_none, errW_some] <;> rfl) | (simp [*, errW_none, errW_some] <;> rfl), by repeat (first | (with_reducible first | exact HB.out | apply below_alloc | apply pw_below_drewN | apply below_drew1 | refine below_set ?_ GE332.out) | exact HB.out)⟩
  · replace c3 := Bool.eq_false_iff.mpr c3
    subst c3
    have H1 : (some false) = some r := by rw [if_neg (show ¬ (false = true) by decide)] at H; exact H
    clear H
    have H := H1
    clear H1
    obtain rfl := Option.some.inj H
    go_enter Tryd.func9, Tryd.ntmps9
    go_wp2_with (first | ((with_reducible refine gate_dst (N := 1) rfl ?_); refine box_event ?hg (N := 1) ?hd (cs := #[.slice A0_0 l0_0.length c0_0, .slice A0_1 l0_1.length c0_1, .int .i64 a0_2, .string a0_3, .string a0_4, .int .i64 a0_5]) (t := 40) ?hr ?_; (case hd => rfl); (case hg => rfl); (case hr => first | (go_simp; done) | (go_simp; rfl)); intro gb332 hg w10 hbox hb; have n0_ := Aside0.mk (below_step (by repeat (first | (with_reducible first | exact HB.out | apply below_alloc | apply pw_below_drewN | apply below_drew1) | exact HB.out)) hb); have n1_ := Aside0.mk (hbox); have n2_ := Aside0.mk ((by rw [hg]; exact (below_size (by repeat (first | (with_reducible first | exact HB.out | apply below_alloc | apply pw_below_drewN | apply below_drew1) | exact HB.out))) : w.heap.size ≤ gb332)); have n3_ := Aside0.mk ((by rw [hg]; exact (below_size (by repeat (first | (with_reducible first | exact HB.out | apply below_alloc | apply pw_below_drewN | apply below_drew1) | exact HB.out))) : w.heap.size ≤ gb332)); clear HB; have HB := n0_; have BK332 := n1_; have GW332 := n2_; have GE332 := n3_; clear n0_ n1_ n2_ n3_; clear hb hbox hg; have hcz11_0 : w10.cell? ⟨gb332, 0, none⟩ = some (.slice A0_0 l0_0.length c0_0) := (blk_cell BK332.out 0).trans rfl; have hcz11_1 : w10.cell? ⟨gb332, 1, none⟩ = some (.slice A0_1 l0_1.length c0_1) := (blk_cell BK332.out 1).trans rfl; have hcz11_2 : w10.cell? ⟨gb332, 2, none⟩ = some (.int .i64 a0_2) := (blk_cell BK332.out 2).trans rfl; have hcz11_3 : w10.cell? ⟨gb332, 3, none⟩ = some (.string a0_3) := (blk_cell BK332.out 3).trans rfl; have hcz11_4 : w10.cell? ⟨gb332, 4, none⟩ = some (.string a0_4) := (blk_cell BK332.out 4).trans rfl; have hcz11_5 : w10.cell? ⟨gb332, 5, none⟩ = some (.int .i64 a0_5) := (blk_cell BK332.out 5).trans rfl; have hfz11_0 := blk_frozen BK332.out 0; have hfz11_1 := blk_frozen BK332.out 1; have hfz11_2 := blk_frozen BK332.out 2; have hfz11_3 := blk_frozen BK332.out 3; have hfz11_4 := blk_frozen BK332.out 4; have hfz11_5 := blk_frozen BK332.out 5) | ((with_reducible refine gate_callee (f := 42) rfl ?_); refine goesL_ (some 5) rfl rfl Tryd.func42 (by kernel_rfl) rfl #[.agg #[.slice A0_0 l0_0.length c0_0, .slice A0_1 l0_1.length c0_1, .int .i64 a0_2]] rfl (by (try simp only [List.map_toArray, List.map_cons, List.map_nil]); first | done | rfl | (simp only [List.length_drop, List.length_take]; rfl)) ?_; (with_reducible refine (impl_IsDesk.calls k _ _ l0_0 _ _ l0_1 a0_2 false _ ?side1 ?side2 ?side3 ?side4 A2.out).mono ?_); (case side1 => repeat (first | exact (Kd.C_below HR0_0.out HB.out) | (with_reducible refine Kd.C_alloc ?_ _) | (with_reducible refine Kd.C_drewN ?_ _) | (with_reducible refine Kd.C_drew ?_))); (case side2 => exact HC0_0.out); (case side3 => repeat (first | exact (Kd.C_below HR0_1.out HB.out) | (with_reducible refine Kd.C_alloc ?_ _) | (with_reducible refine Kd.C_drewN ?_ _) | (with_reducible refine Kd.C_drew ?_))); (case side4 => exact HC0_1.out); rintro e w12 ⟨rfl, hb⟩; refine ⟨_, rfl, ?_⟩; have n0_ := Aside0.mk (blk_below (g := gb332) (o := .cells #[.slice A0_0 l0_0.length c0_0, .slice A0_1 l0_1.length c0_1, .int .i64 a0_2, .string a0_3, .string a0_4, .int .i64 a0_5] 40 (0, 0)) (by (with_reducible repeat (first | refine blk_drewN ?_ _ | refine blk_drew ?_ | refine blk_alloc ?_ _)); exact BK332.out) hb); have n1_ := Aside0.mk (below_step (by repeat (first | (with_reducible first | exact HB.out | apply below_alloc | apply pw_below_drewN | apply below_drew1 | refine below_set ?_ GE332.out) | exact HB.out)) hb); clear BK332; clear HB; have BK332 := n0_; have HB := n1_; clear n0_ n1_; (try clear hb); (try clear hb2); (try clear hk); (try clear hi)))
    go_ret
    exact ⟨by first | rfl | (simp [errW_none, errW_some] <;> rfl) | (simp [*, errW_none, errW_some] <;> rfl), by repeat (first | (with_reducible first | exact HB.out | apply below_alloc | apply pw_below_drewN | apply below_drew1 | refine below_set ?_ GE332.out) | exact HB.out)⟩
end Go.Proofs.YtaceoijcjkbgfaaDoor.P
namespace Go.Proofs.YtaceoijcjkbgfaaDoor.P
open Go.RowKit Go.Proofs.YtaceoijcjkbgfaaDoorW.PrintWords Go.Proofs.YtaceoijcjkbgfaaDoorW.PrintLast Go.Proofs.YtaceoijcjkbgfaaDoorW.PrintMore
attribute [local go_sem] max2_int min2_int max_two min_two max_three min_three max_four min_four   -- for this text's walks alone
set_option linter.unusedVariables false
set_option linter.unusedSimpArgs false

def laws_FnExactIsValidConsole.f (k : Nat) (l0_0 : List (List Int)) (l0_1 : List (S130)) (a0_2 : Int) (a0_3 : ByteArray) (a0_4 : ByteArray) (a0_5 : Int) : Option (Bool) := (laws_szConsole.f k l0_0 l0_1 a0_2 a0_3 a0_4 a0_5 1048576).bind fun t359 => (if t359 < 0 then (some true) else ((laws_toConsole.f k l0_0 l0_1 a0_2 a0_3 a0_4 a0_5).bind fun bt360 => ((spec_IsValidConsole.f k bt360.1 bt360.2.1 bt360.2.2.1 bt360.2.2.2.1 bt360.2.2.2.2.1 bt360.2.2.2.2.2).bind fun t370 => ((laws_toConsole.f k l0_0 l0_1 a0_2 a0_3 a0_4 a0_5).bind fun bt371 => ((impl_IsValidConsole.f k bt371.1 bt371.2.1 bt371.2.2.1 bt371.2.2.2.1 bt371.2.2.2.2.1 bt371.2.2.2.2.2).bind fun t382 => (if (t382 != t370) = true then (some false) else ((laws_toConsole.f k l0_0 l0_1 a0_2 a0_3 a0_4 a0_5).bind fun bt383 => ((laws_eqConsole.f k bt371.1 bt371.2.1 bt371.2.2.1 bt371.2.2.2.1 bt371.2.2.2.2.1 bt371.2.2.2.2.2 bt383.1 bt383.2.1 bt383.2.2.1 bt383.2.2.2.1 bt383.2.2.2.2.1 bt383.2.2.2.2.2).bind fun t393 => (if t393 = true then (some true) else (some false))))))))))

set_option maxHeartbeats 8000000 in
set_option maxRecDepth 100000 in
theorem laws_FnExactIsValidConsole.calls (k : Nat) (A0_0 : Option Addr) (c0_0 : Nat) (l0_0 : List (List Int)) (A0_1 : Option Addr) (c0_1 : Nat) (l0_1 : List (S130)) (a0_2 : Int) (a0_3 : ByteArray) (a0_4 : ByteArray) (a0_5 : Int) (w : World) (hr0_0 : Kd.C (Kd.slice 5 (Kd.int .u8)) w A0_0 l0_0.length l0_0) (hc0_0 : l0_0.length ≤ c0_0) (hr0_1 : Kd.C k130 w A0_1 l0_1.length l0_1) (hc0_1 : l0_1.length ≤ c0_1) (ht : TabOK w) (h : laws_FnExactIsValidConsole.f k l0_0 l0_1 a0_2 a0_3 a0_4 a0_5 = some true) :
    Calls Tryd.prog 3 #[.agg #[.slice A0_0 l0_0.length c0_0, .slice A0_1 l0_1.length c0_1, .int .i64 a0_2, .string a0_3, .string a0_4, .int .i64 a0_5]] w fun e w' => e = .returned (.bool true) ∧ Below w.heap.size w w' := by
  have hu31 := Tryd.underlying31
  have hu40 := Tryd.underlying40
  have HT := Aside0.mk ht
  clear ht
  have HR0_0 := Aside0.mk hr0_0
  have HC0_0 := Aside0.mk hc0_0
  clear hr0_0 hc0_0
  have HR0_1 := Aside0.mk hr0_1
  have HC0_1 := Aside0.mk hc0_1
  clear hr0_1 hc0_1
  have HB := Aside0.mk (Below.refl w.heap.size w)
  have H : ((laws_szConsole.f k l0_0 l0_1 a0_2 a0_3 a0_4 a0_5 1048576).bind fun t359 => (if t359 < 0 then (some true) else ((laws_toConsole.f k l0_0 l0_1 a0_2 a0_3 a0_4 a0_5).bind fun bt360 => ((spec_IsValidConsole.f k bt360.1 bt360.2.1 bt360.2.2.1 bt360.2.2.2.1 bt360.2.2.2.2.1 bt360.2.2.2.2.2).bind fun t370 => ((laws_toConsole.f k l0_0 l0_1 a0_2 a0_3 a0_4 a0_5).bind fun bt371 => ((impl_IsValidConsole.f k bt371.1 bt371.2.1 bt371.2.2.1 bt371.2.2.2.1 bt371.2.2.2.2.1 bt371.2.2.2.2.2).bind fun t382 => (if (t382 != t370) = true then (some false) else ((laws_toConsole.f k l0_0 l0_1 a0_2 a0_3 a0_4 a0_5).bind fun bt383 => ((laws_eqConsole.f k bt371.1 bt371.2.1 bt371.2.2.1 bt371.2.2.2.1 bt371.2.2.2.2.1 bt371.2.2.2.2.2 bt383.1 bt383.2.1 bt383.2.2.1 bt383.2.2.2.1 bt383.2.2.2.2.1 bt383.2.2.2.2.2).bind fun t393 => (if t393 = true then (some true) else (some false))))))))))) = some true := h
  clear h
  replace H := Option.bind_eq_some_iff.mp H
  obtain ⟨t359, A20, H⟩ := H
  replace H : (if t359 < 0 then (some true) else ((laws_toConsole.f k l0_0 l0_1 a0_2 a0_3 a0_4 a0_5).bind fun bt360 => ((spec_IsValidConsole.f k bt360.1 bt360.2.1 bt360.2.2.1 bt360.2.2.2.1 bt360.2.2.2.2.1 bt360.2.2.2.2.2).bind fun t370 => ((laws_toConsole.f k l0_0 l0_1 a0_2 a0_3 a0_4 a0_5).bind fun bt371 => ((impl_IsValidConsole.f k bt371.1 bt371.2.1 bt371.2.2.1 bt371.2.2.2.1 bt371.2.2.2.2.1 bt371.2.2.2.2.2).bind fun t382 => (if (t382 != t370) = true then (some false) else ((laws_toConsole.f k l0_0 l0_1 a0_2 a0_3 a0_4 a0_5).bind fun bt383 => ((laws_eqConsole.f k bt371.1 bt371.2.1 bt371.2.2.1 bt371.2.2.2.1 bt371.2.2.2.2.1 bt371.2.2.2.2.2 bt383.1 bt383.2.1 bt383.2.2.1 bt383.2.2.2.1 bt383.2.2.2.2.1 bt383.2.2.2.2.2).bind fun t393 => (if t393 = true then (some true) else (some false)))))))))) = some true := H
  have A2 := Aside0.mk A20
  clear A20
  by_cases c3 : t359 < 0
  · rw [if_pos c3] at H
    have c3b0 : decide (t359 < 0) = true := decide_eq_true c3
    clear c3
    clear H
    go_enter Tryd.func3, Tryd.ntmps3
    go_wp2_with (first | ((with_reducible refine gate_dst (N := 1) rfl ?_); refine box_event ?hg (N := 1) ?hd (cs := #[.slice A0_0 l0_0.length c0_0, .slice A0_1 l0_1.length c0_1, .int .i64 a0_2, .string a0_3, .string a0_4, .int .i64 a0_5]) (t := 31) ?hr ?_; (case hd => rfl); (case hg => rfl); (case hr => first | (go_simp; done) | (go_simp; rfl)); intro gb358 hg w4 hbox hb; have n0_ := Aside0.mk (below_step (by repeat (first | (with_reducible first | exact HB.out | apply below_alloc | apply pw_below_drewN | apply below_drew1) | exact HB.out)) hb); have n1_ := Aside0.mk (hbox); have n2_ := Aside0.mk ((by rw [hg]; exact (below_size (by repeat (first | (with_reducible first | exact HB.out | apply below_alloc | apply pw_below_drewN | apply below_drew1) | exact HB.out))) : w.heap.size ≤ gb358)); have n3_ := Aside0.mk ((by rw [hg]; exact (below_size (by repeat (first | (with_reducible first | exact HB.out | apply below_alloc | apply pw_below_drewN | apply below_drew1) | exact HB.out))) : w.heap.size ≤ gb358)); clear HB; have HB := n0_; have BK358 := n1_; have GW358 := n2_; have GE358 := n3_; clear n0_ n1_ n2_ n3_; clear hb hbox hg; have hcz5_0 : w4.cell? ⟨gb358, 0, none⟩ = some (.slice A0_0 l0_0.length c0_0) := (blk_cell BK358.out 0).trans rfl; have hcz5_1 : w4.cell? ⟨gb358, 1, none⟩ = some (.slice A0_1 l0_1.length c0_1) := (blk_cell BK358.out 1).trans rfl; have hcz5_2 : w4.cell? ⟨gb358, 2, none⟩ = some (.int .i64 a0_2) := (blk_cell BK358.out 2).trans rfl; have hcz5_3 : w4.cell? ⟨gb358, 3, none⟩ = some (.string a0_3) := (blk_cell BK358.out 3).trans rfl; have hcz5_4 : w4.cell? ⟨gb358, 4, none⟩ = some (.string a0_4) := (blk_cell BK358.out 4).trans rfl; have hcz5_5 : w4.cell? ⟨gb358, 5, none⟩ = some (.int .i64 a0_5) := (blk_cell BK358.out 5).trans rfl; have hfz5_0 := blk_frozen BK358.out 0; have hfz5_1 := blk_frozen BK358.out 1; have hfz5_2 := blk_frozen BK358.out 2; have hfz5_3 := blk_frozen BK358.out 3; have hfz5_4 := blk_frozen BK358.out 4; have hfz5_5 := blk_frozen BK358.out 5) | ((with_reducible refine gate_callee (f := 6) rfl ?_); refine goesL_ (some 9) rfl rfl Tryd.func6 (by kernel_rfl) rfl #[.agg #[.slice A0_0 l0_0.length c0_0, .slice A0_1 l0_1.length c0_1, .int .i64 a0_2, .string a0_3, .string a0_4, .int .i64 a0_5], .int .i64 1048576] rfl (by (try simp only [List.map_toArray, List.map_cons, List.map_nil]); first | done | rfl | (simp only [List.length_drop, List.length_take]; rfl)) ?_; (with_reducible refine (laws_szConsole.calls k _ _ l0_0 _ _ l0_1 a0_2 a0_3 a0_4 a0_5 1048576 t359 _ ?side1 ?side2 ?side3 ?side4 A2.out).mono ?_); (case side1 => repeat (first | exact (Kd.C_below HR0_0.out HB.out) | (with_reducible refine Kd.C_alloc ?_ _) | (with_reducible refine Kd.C_drewN ?_ _) | (with_reducible refine Kd.C_drew ?_))); (case side2 => exact HC0_0.out); (case side3 => repeat (first | exact (Kd.C_below HR0_1.out HB.out) | (with_reducible refine Kd.C_alloc ?_ _) | (with_reducible refine Kd.C_drewN ?_ _) | (with_reducible refine Kd.C_drew ?_))); (case side4 => exact HC0_1.out); rintro e w6 ⟨rfl, hb⟩; refine ⟨_, rfl, ?_⟩; have n0_ := Aside0.mk (blk_below (g := gb358) (o := .cells #[.slice A0_0 l0_0.length c0_0, .slice A0_1 l0_1.length c0_1, .int .i64 a0_2, .string a0_3, .string a0_4, .int .i64 a0_5] 31 (0, 0)) (by (with_reducible repeat (first | refine blk_drewN ?_ _ | refine blk_drew ?_ | refine blk_alloc ?_ _)); exact BK358.out) hb); have n1_ := Aside0.mk (below_step (by repeat (first | (with_reducible first | exact HB.out | apply below_alloc | apply pw_below_drewN | apply below_drew1 | refine below_set ?_ GE358.out) | exact HB.out)) hb); clear BK358; clear HB; have BK358 := n0_; have HB := n1_; clear n0_ n1_; (try clear hb); (try clear hb2); (try clear hk); (try clear hi)))
    go_ret
    exact ⟨by first | rfl | (simp [errW_none, errW_some] <;> rfl) | (simp [*, errW_none, errW_some] <;> rfl), by repeat (first | (with_reducible first | exact HB.out | apply below_alloc | apply pw_below_drewN | apply below_drew1 | refine below_set ?_ GE358.out) | exact HB.out)⟩
  · rw [if_neg c3] at H
    have c3b0 : decide (t359 < 0) = false := decide_eq_false c3
    clear c3
    replace H := Option.bind_eq_some_iff.mp H
    obtain ⟨⟨t360, t363, t366, t367, t368, t369⟩, A70, H⟩ := H
    replace H : ((spec_IsValidConsole.f k t360 t363 t366 t367 t368 t369).bind fun t370 => ((laws_toConsole.f k l0_0 l0_1 a0_2 a0_3 a0_4 a0_5).bind fun bt371 => ((impl_IsValidConsole.f k bt371.1 bt371.2.1 bt371.2.2.1 bt371.2.2.2.1 bt371.2.2.2.2.1 bt371.2.2.2.2.2).bind fun t382 => (if (t382 != t370) = true then (some false) else ((laws_toConsole.f k l0_0 l0_1 a0_2 a0_3 a0_4 a0_5).bind fun bt383 => ((laws_eqConsole.f k bt371.1 bt371.2.1 bt371.2.2.1 bt371.2.2.2.1 bt371.2.2.2.2.1 bt371.2.2.2.2.2 bt383.1 bt383.2.1 bt383.2.2.1 bt383.2.2.2.1 bt383.2.2.2.2.1 bt383.2.2.2.2.2).bind fun t393 => (if t393 = true then (some true) else (some false)))))))) = some true := H
    have A7 := Aside0.mk A70
    clear A70
    replace H := Option.bind_eq_some_iff.mp H
    obtain ⟨t370, A80, H⟩ := H
    replace H : ((laws_toConsole.f k l0_0 l0_1 a0_2 a0_3 a0_4 a0_5).bind fun bt371 => ((impl_IsValidConsole.f k bt371.1 bt371.2.1 bt371.2.2.1 bt371.2.2.2.1 bt371.2.2.2.2.1 bt371.2.2.2.2.2).bind fun t382 => (if (t382 != t370) = true then (some false) else ((laws_toConsole.f k l0_0 l0_1 a0_2 a0_3 a0_4 a0_5).bind fun bt383 => ((laws_eqConsole.f k bt371.1 bt371.2.1 bt371.2.2.1 bt371.2.2.2.1 bt371.2.2.2.2.1 bt371.2.2.2.2.2 bt383.1 bt383.2.1 bt383.2.2.1 bt383.2.2.2.1 bt383.2.2.2.2.1 bt383.2.2.2.2.2).bind fun t393 => (if t393 = true then (some true) else (some false))))))) = some true := H
    have A8 := Aside0.mk A80
    clear A80
    replace H := Option.bind_eq_some_iff.mp H
    obtain ⟨⟨t371, t374, t377, t378, t379, t380⟩, A90, H⟩ := H
    replace H : ((impl_IsValidConsole.f k t371 t374 t377 t378 t379 t380).bind fun t382 => (if (t382 != t370) = true then (some false) else ((laws_toConsole.f k l0_0 l0_1 a0_2 a0_3 a0_4 a0_5).bind fun bt383 => ((laws_eqConsole.f k t371 t374 t377 t378 t379 t380 bt383.1 bt383.2.1 bt383.2.2.1 bt383.2.2.2.1 bt383.2.2.2.2.1 bt383.2.2.2.2.2).bind fun t393 => (if t393 = true then (some true) else (some false)))))) = some true := H
    have A9 := Aside0.mk A90
    clear A90
    replace H := Option.bind_eq_some_iff.mp H
    obtain ⟨t382, A100, H⟩ := H
    replace H : (if (t382 != t370) = true then (some false) else ((laws_toConsole.f k l0_0 l0_1 a0_2 a0_3 a0_4 a0_5).bind fun bt383 => ((laws_eqConsole.f k t371 t374 t377 t378 t379 t380 bt383.1 bt383.2.1 bt383.2.2.1 bt383.2.2.2.1 bt383.2.2.2.2.1 bt383.2.2.2.2.2).bind fun t393 => (if t393 = true then (some true) else (some false))))) = some true := H
    have A10 := Aside0.mk A100
    clear A100
    by_cases c11 : (t382 != t370) = true
    · rw [if_pos c11] at H
      have c11b0 : (t382 != t370) = true := c11
      (try (have c11b1 : decide (t382 = t370) = false := by simpa using c11))
      (try (have c11b2 : (t382 == t370) = false := by simpa using c11))
      (try (have c11b3 : ¬ (t382 = t370) := by simpa using c11))
      clear c11
      exact absurd (Option.some.inj H) (by decide)
    · rw [if_neg c11] at H
      have c11b0 : (t382 != t370) = false := by simpa using c11
      (try (have c11b1 : decide (t382 = t370) = true := by simpa using c11))
      (try (have c11b2 : (t382 == t370) = true := by simpa using c11))
      clear c11
      replace H := Option.bind_eq_some_iff.mp H
      obtain ⟨⟨t383, t386, t389, t390, t391, t392⟩, A280, H⟩ := H
      replace H : ((laws_eqConsole.f k t371 t374 t377 t378 t379 t380 t383 t386 t389 t390 t391 t392).bind fun t393 => (if t393 = true then (some true) else (some false))) = some true := H
      have A28 := Aside0.mk A280
      clear A280
      replace H := Option.bind_eq_some_iff.mp H
      obtain ⟨t393, A290, H⟩ := H
      replace H : (if t393 = true then (some true) else (some false)) = some true := H
      have A29 := Aside0.mk A290
      clear A290
      by_cases c30 : t393 = true
      · subst c30
        have H1 : (some true : Option Bool) = some true := rfl
        clear H
        have H := H1
        clear H1
        clear H
        go_enter Tryd.func3, Tryd.ntmps3
        try go_wp2_with (first | ((with_reducible refine gate_dst (N := 1) rfl ?_); refine box_event ?hg (N := 1) ?hd (cs := #[.slice A0_0 l0_0.length c0_0, .slice A0_1 l0_1.length c0_1, .int .i64 a0_2, .string a0_3, .string a0_4, .int .i64 a0_5]) (t := 31) ?hr ?_; (case hd => rfl); (case hg => rfl); (case hr => first | (go_simp; done) | (go_simp; rfl)); intro gb358 hg w31 hbox hb; have n0_ := Aside0.mk (below_step (by repeat (first | (with_reducible first | exact HB.out | apply below_alloc | apply pw_below_drewN | apply below_drew1) | exact HB.out)) hb); have n1_ := Aside0.mk (hbox); have n2_ := Aside0.mk ((by rw [hg]; exact (below_size (by repeat (first | (with_reducible first | exact HB.out | apply below_alloc | apply pw_below_drewN | apply below_drew1) | exact HB.out))) : w.heap.size ≤ gb358)); have n3_ := Aside0.mk ((by rw [hg]; exact (below_size (by repeat (first | (with_reducible first | exact HB.out | apply below_alloc | apply pw_below_drewN | apply below_drew1) | exact HB.out))) : w.heap.size ≤ gb358)); clear HB; have HB := n0_; have BK358 := n1_; have GW358 := n2_; have GE358 := n3_; clear n0_ n1_ n2_ n3_; clear hb hbox hg; have hcz32_0 : w31.cell? ⟨gb358, 0, none⟩ = some (.slice A0_0 l0_0.length c0_0) := (blk_cell BK358.out 0).trans rfl; have hcz32_1 : w31.cell? ⟨gb358, 1, none⟩ = some (.slice A0_1 l0_1.length c0_1) := (blk_cell BK358.out 1).trans rfl; have hcz32_2 : w31.cell? ⟨gb358, 2, none⟩ = some (.int .i64 a0_2) := (blk_cell BK358.out 2).trans rfl; have hcz32_3 : w31.cell? ⟨gb358, 3, none⟩ = some (.string a0_3) := (blk_cell BK358.out 3).trans rfl; have hcz32_4 : w31.cell? ⟨gb358, 4, none⟩ = some (.string a0_4) := (blk_cell BK358.out 4).trans rfl; have hcz32_5 : w31.cell? ⟨gb358, 5, none⟩ = some (.int .i64 a0_5) := (blk_cell BK358.out 5).trans rfl; have hfz32_0 := blk_frozen BK358.out 0; have hfz32_1 := blk_frozen BK358.out 1; have hfz32_2 := blk_frozen BK358.out 2; have hfz32_3 := blk_frozen BK358.out 3; have hfz32_4 := blk_frozen BK358.out 4; have hfz32_5 := blk_frozen BK358.out 5) | ((with_reducible refine gate_callee (f := 6) rfl ?_); refine goesL_ (some 9) rfl rfl Tryd.func6 (by kernel_rfl) rfl #[.agg #[.slice A0_0 l0_0.length c0_0, .slice A0_1 l0_1.length c0_1, .int .i64 a0_2, .string a0_3, .string a0_4, .int .i64 a0_5], .int .i64 1048576] rfl (by (try simp only [List.map_toArray, List.map_cons, List.map_nil]); first | done | rfl | (simp only [List.length_drop, List.length_take]; rfl)) ?_; (with_reducible refine (laws_szConsole.calls k _ _ l0_0 _ _ l0_1 a0_2 a0_3 a0_4 a0_5 1048576 t359 _ ?side1 ?side2 ?side3 ?side4 A2.out).mono ?_); (case side1 => repeat (first | exact (Kd.C_below HR0_0.out HB.out) | (with_reducible refine Kd.C_alloc ?_ _) | (with_reducible refine Kd.C_drewN ?_ _) | (with_reducible refine Kd.C_drew ?_))); (case side2 => exact HC0_0.out); (case side3 => repeat (first | exact (Kd.C_below HR0_1.out HB.out) | (with_reducible refine Kd.C_alloc ?_ _) | (with_reducible refine Kd.C_drewN ?_ _) | (with_reducible refine Kd.C_drew ?_))); (case side4 => exact HC0_1.out); rintro e w33 ⟨rfl, hb⟩; refine ⟨_, rfl, ?_⟩; have n0_ := Aside0.mk (blk_below (g := gb358) (o := .cells #[.slice A0_0 l0_0.length c0_0, .slice A0_1 l0_1.length c0_1, .int .i64 a0_2, .string a0_3, .string a0_4, .int .i64 a0_5] 31 (0, 0)) (by (with_reducible repeat (first | refine blk_drewN ?_ _ | refine blk_drew ?_ | refine blk_alloc ?_ _)); exact BK358.out) hb); have n1_ := Aside0.mk (below_step (by repeat (first | (with_reducible first | exact HB.out | apply below_alloc | apply pw_below_drewN | apply below_drew1 | refine below_set ?_ GE358.out) | exact HB.out)) hb); clear BK358; clear HB; have BK358 := n0_; have HB := n1_; clear n0_ n1_; (try clear hb); (try clear hb2); (try clear hk); (try clear hi); have hcz34_0 : w33.cell? ⟨gb358, 0, none⟩ = some (.slice A0_0 l0_0.length c0_0) := (blk_cell BK358.out 0).trans rfl; have hcz34_1 : w33.cell? ⟨gb358, 1, none⟩ = some (.slice A0_1 l0_1.length c0_1) := (blk_cell BK358.out 1).trans rfl; have hcz34_2 : w33.cell? ⟨gb358, 2, none⟩ = some (.int .i64 a0_2) := (blk_cell BK358.out 2).trans rfl; have hcz34_3 : w33.cell? ⟨gb358, 3, none⟩ = some (.string a0_3) := (blk_cell BK358.out 3).trans rfl; have hcz34_4 : w33.cell? ⟨gb358, 4, none⟩ = some (.string a0_4) := (blk_cell BK358.out 4).trans rfl; have hcz34_5 : w33.cell? ⟨gb358, 5, none⟩ = some (.int .i64 a0_5) := (blk_cell BK358.out 5).trans rfl; have hfz34_0 := blk_frozen BK358.out 0; have hfz34_1 := blk_frozen BK358.out 1; have hfz34_2 := blk_frozen BK358.out 2; have hfz34_3 := blk_frozen BK358.out 3; have hfz34_4 := blk_frozen BK358.out 4; have hfz34_5 := blk_frozen BK358.out 5) | ((with_reducible refine gate_callee (f := 8) rfl ?_); refine goesL_ (some 13) rfl rfl Tryd.func8 (by kernel_rfl) rfl #[.agg #[.slice A0_0 l0_0.length c0_0, .slice A0_1 l0_1.length c0_1, .int .i64 a0_2, .string a0_3, .string a0_4, .int .i64 a0_5]] rfl (by (try simp only [List.map_toArray, List.map_cons, List.map_nil]); first | done | rfl | (simp only [List.length_drop, List.length_take]; rfl)) ?_; (with_reducible refine (laws_toConsole.calls k _ _ l0_0 _ _ l0_1 a0_2 a0_3 a0_4 a0_5 t360 t363 t366 t367 t368 t369 _ ?side1 ?side2 ?side3 ?side4 A7.out).mono ?_); (case side1 => repeat (first | exact (Kd.C_below HR0_0.out HB.out) | (with_reducible refine Kd.C_alloc ?_ _) | (with_reducible refine Kd.C_drewN ?_ _) | (with_reducible refine Kd.C_drew ?_))); (case side2 => exact HC0_0.out); (case side3 => repeat (first | exact (Kd.C_below HR0_1.out HB.out) | (with_reducible refine Kd.C_alloc ?_ _) | (with_reducible refine Kd.C_drewN ?_ _) | (with_reducible refine Kd.C_drew ?_))); (case side4 => exact HC0_1.out); rintro e w35 ⟨v361, v364, rfl, ho0, ho1, hb⟩; refine ⟨_, rfl, ?_⟩; have n0_ := Aside0.mk (Kd.S_lower ho0 (below_size (by repeat (first | (with_reducible first | exact HB.out | apply below_alloc | apply pw_below_drewN | apply below_drew1 | refine below_set ?_ GE358.out) | exact HB.out)))); have n1_ := Aside0.mk (Kd.R_lower ho1 (below_size (by repeat (first | (with_reducible first | exact HB.out | apply below_alloc | apply pw_below_drewN | apply below_drew1 | refine below_set ?_ GE358.out) | exact HB.out)))); have n2_ := Aside0.mk (blk_below (g := gb358) (o := .cells #[.slice A0_0 l0_0.length c0_0, .slice A0_1 l0_1.length c0_1, .int .i64 a0_2, .string a0_3, .string a0_4, .int .i64 a0_5] 31 (0, 0)) (by (with_reducible repeat (first | refine blk_drewN ?_ _ | refine blk_drew ?_ | refine blk_alloc ?_ _)); exact BK358.out) hb); have n3_ := Aside0.mk (below_step (by repeat (first | (with_reducible first | exact HB.out | apply below_alloc | apply pw_below_drewN | apply below_drew1 | refine below_set ?_ GE358.out) | exact HB.out)) hb); clear BK358; clear HB; have HO362 := n0_; have HO365 := n1_; have BK358 := n2_; have HB := n3_; clear n0_ n1_ n2_ n3_; (try clear hb); (try clear hb2); (try clear hk); (try clear hi); (try clear ho0); (try clear ho1); obtain ⟨Ao36, co36, eo36⟩ := Kd.S_slice HO362.out; subst eo36; obtain ⟨Ao37, co37, eo37⟩ := Kd.R_slice HO365.out; subst eo37) | ((with_reducible refine gate_callee (f := 7) rfl ?_); refine goesL_ (some 14) rfl rfl Tryd.func7 (by kernel_rfl) rfl #[.agg #[.slice Ao36 t360.length co36, .slice Ao37 t363.length co37, .int .i64 t366, .string t367, .string t368, .int .i64 t369]] rfl (by (try simp only [List.map_toArray, List.map_cons, List.map_nil]); first | done | rfl | (simp only [List.length_drop, List.length_take]; rfl)) ?_; (with_reducible refine (spec_IsValidConsole.calls k _ _ t360 _ _ t363 t366 t367 t368 t369 t370 _ ?side1 ?side2 ?side3 ?side4 A8.out).mono ?_); (case side1 => repeat (first | exact (Kd.S_reads' HO362.out).2.2 | (with_reducible refine Kd.C_alloc ?_ _) | (with_reducible refine Kd.C_drewN ?_ _) | (with_reducible refine Kd.C_drew ?_))); (case side2 => exact (Kd.S_reads' HO362.out).2.1); (case side3 => repeat (first | exact (Kd.R_reads' HO365.out).2.2 | (with_reducible refine Kd.C_alloc ?_ _) | (with_reducible refine Kd.C_drewN ?_ _) | (with_reducible refine Kd.C_drew ?_))); (case side4 => exact (Kd.R_reads' HO365.out).2.1); rintro e w38 ⟨rfl, hb⟩; refine ⟨_, rfl, ?_⟩; have n0_ := Aside0.mk (Kd.S_below (by (with_reducible repeat (first | apply Kd.S_alloc | apply Kd.S_drewN | apply Kd.S_drew)); exact HO362.out) hb); have n1_ := Aside0.mk (Kd.R_below (by (with_reducible repeat (first | apply Kd.R_alloc | apply Kd.R_drewN | apply Kd.R_drew)); exact HO365.out) hb); have n2_ := Aside0.mk (blk_below (g := gb358) (o := .cells #[.slice A0_0 l0_0.length c0_0, .slice A0_1 l0_1.length c0_1, .int .i64 a0_2, .string a0_3, .string a0_4, .int .i64 a0_5] 31 (0, 0)) (by (with_reducible repeat (first | refine blk_drewN ?_ _ | refine blk_drew ?_ | refine blk_alloc ?_ _)); exact BK358.out) hb); have n3_ := Aside0.mk (below_step (by repeat (first | (with_reducible first | exact HB.out | apply below_alloc | apply pw_below_drewN | apply below_drew1 | refine below_set ?_ GE358.out) | exact HB.out)) hb); clear HO362; clear HO365; clear BK358; clear HB; have HO362 := n0_; have HO365 := n1_; have BK358 := n2_; have HB := n3_; clear n0_ n1_ n2_ n3_; (try clear hb); (try clear hb2); (try clear hk); (try clear hi); have hcz39_0 : w38.cell? ⟨gb358, 0, none⟩ = some (.slice A0_0 l0_0.length c0_0) := (blk_cell BK358.out 0).trans rfl; have hcz39_1 : w38.cell? ⟨gb358, 1, none⟩ = some (.slice A0_1 l0_1.length c0_1) := (blk_cell BK358.out 1).trans rfl; have hcz39_2 : w38.cell? ⟨gb358, 2, none⟩ = some (.int .i64 a0_2) := (blk_cell BK358.out 2).trans rfl; have hcz39_3 : w38.cell? ⟨gb358, 3, none⟩ = some (.string a0_3) := (blk_cell BK358.out 3).trans rfl; have hcz39_4 : w38.cell? ⟨gb358, 4, none⟩ = some (.string a0_4) := (blk_cell BK358.out 4).trans rfl; have hcz39_5 : w38.cell? ⟨gb358, 5, none⟩ = some (.int .i64 a0_5) := (blk_cell BK358.out 5).trans rfl; have hfz39_0 := blk_frozen BK358.out 0; have hfz39_1 := blk_frozen BK358.out 1; have hfz39_2 := blk_frozen BK358.out 2; have hfz39_3 := blk_frozen BK358.out 3; have hfz39_4 := blk_frozen BK358.out 4; have hfz39_5 := blk_frozen BK358.out 5) | ((with_reducible refine gate_callee (f := 8) rfl ?_); refine goesL_ (some 16) rfl rfl Tryd.func8 (by kernel_rfl) rfl #[.agg #[.slice A0_0 l0_0.length c0_0, .slice A0_1 l0_1.length c0_1, .int .i64 a0_2, .string a0_3, .string a0_4, .int .i64 a0_5]] rfl (by (try simp only [List.map_toArray, List.map_cons, List.map_nil]); first | done | rfl | (simp only [List.length_drop, List.length_take]; rfl)) ?_; (with_reducible refine (laws_toConsole.calls k _ _ l0_0 _ _ l0_1 a0_2 a0_3 a0_4 a0_5 t371 t374 t377 t378 t379 t380 _ ?side1 ?side2 ?side3 ?side4 A9.out).mono ?_); (case side1 => repeat (first | exact (Kd.C_below HR0_0.out HB.out) | (with_reducible refine Kd.C_alloc ?_ _) | (with_reducible refine Kd.C_drewN ?_ _) | (with_reducible refine Kd.C_drew ?_))); (case side2 => exact HC0_0.out); (case side3 => repeat (first | exact (Kd.C_below HR0_1.out HB.out) | (with_reducible refine Kd.C_alloc ?_ _) | (with_reducible refine Kd.C_drewN ?_ _) | (with_reducible refine Kd.C_drew ?_))); (case side4 => exact HC0_1.out); rintro e w40 ⟨v372, v375, rfl, ho0, ho1, hb⟩; refine ⟨_, rfl, ?_⟩; have n0_ := Aside0.mk (Kd.S_elder' (by (with_reducible repeat (first | apply Kd.S_alloc | apply Kd.S_drewN | apply Kd.S_drew)); exact HO362.out) (Kd.S_base ho0) hb); have n1_ := Aside0.mk (Kd.R_elder' (by (with_reducible repeat (first | apply Kd.R_alloc | apply Kd.R_drewN | apply Kd.R_drew)); exact HO365.out) (Kd.R_base ho1) hb); have n2_ := Aside0.mk (Kd.S_lower (Kd.S_new' ho0 (Kd.S_lt (by (with_reducible repeat (first | apply Kd.S_alloc | apply Kd.S_drewN | apply Kd.S_drew)); exact HO362.out))) (below_size (by repeat (first | (with_reducible first | exact HB.out | apply below_alloc | apply pw_below_drewN | apply below_drew1 | refine below_set ?_ GE358.out) | exact HB.out)))); have n3_ := Aside0.mk (Kd.R_lower (Kd.R_new' ho1 (Kd.R_lt (by (with_reducible repeat (first | apply Kd.R_alloc | apply Kd.R_drewN | apply Kd.R_drew)); exact HO365.out))) (below_size (by repeat (first | (with_reducible first | exact HB.out | apply below_alloc | apply pw_below_drewN | apply below_drew1 | refine below_set ?_ GE358.out) | exact HB.out)))); have n4_ := Aside0.mk (blk_below (g := gb358) (o := .cells #[.slice A0_0 l0_0.length c0_0, .slice A0_1 l0_1.length c0_1, .int .i64 a0_2, .string a0_3, .string a0_4, .int .i64 a0_5] 31 (0, 0)) (by (with_reducible repeat (first | refine blk_drewN ?_ _ | refine blk_drew ?_ | refine blk_alloc ?_ _)); exact BK358.out) hb); have n5_ := Aside0.mk (below_step (by repeat (first | (with_reducible first | exact HB.out | apply below_alloc | apply pw_below_drewN | apply below_drew1 | refine below_set ?_ GE358.out) | exact HB.out)) hb); clear HO362; clear HO365; clear BK358; clear HB; have HO362 := n0_; have HO365 := n1_; have HO373 := n2_; have HO376 := n3_; have BK358 := n4_; have HB := n5_; clear n0_ n1_ n2_ n3_ n4_ n5_; (try clear hb); (try clear hb2); (try clear hk); (try clear hi); (try clear ho0); (try clear ho1)) | ((with_reducible refine gate_dst (N := 5) rfl ?_); refine box_event ?hg (N := 5) ?hd (cs := #[.slice none 0 0, .slice none 0 0, .int .i64 0, .string (⟨#[]⟩ : ByteArray), .string (⟨#[]⟩ : ByteArray), .int .i64 0]) (t := 40) ?hr ?_; (case hd => rfl); (case hg => rfl); (case hr => first | (go_simp; done) | (go_simp; rfl)); intro gb381 hg w41 hbox hb; have n0_ := Aside0.mk (Kd.S_below (by (with_reducible repeat (first | apply Kd.S_alloc | apply Kd.S_drewN | apply Kd.S_drew)); exact HO362.out) hb); have n1_ := Aside0.mk (Kd.R_below (by (with_reducible repeat (first | apply Kd.R_alloc | apply Kd.R_drewN | apply Kd.R_drew)); exact HO365.out) hb); have n2_ := Aside0.mk (Kd.S_below (by (with_reducible repeat (first | apply Kd.S_alloc | apply Kd.S_drewN | apply Kd.S_drew)); exact HO373.out) hb); have n3_ := Aside0.mk (Kd.R_below (by (with_reducible repeat (first | apply Kd.R_alloc | apply Kd.R_drewN | apply Kd.R_drew)); exact HO376.out) hb); have n4_ := Aside0.mk (blk_below (g := gb358) (o := .cells #[.slice A0_0 l0_0.length c0_0, .slice A0_1 l0_1.length c0_1, .int .i64 a0_2, .string a0_3, .string a0_4, .int .i64 a0_5] 31 (0, 0)) (by (with_reducible repeat (first | refine blk_drewN ?_ _ | refine blk_drew ?_ | refine blk_alloc ?_ _)); exact BK358.out) hb); have n5_ := Aside0.mk (below_step (by repeat (first | (with_reducible first | exact HB.out | apply below_alloc | apply pw_below_drewN | apply below_drew1 | refine below_set ?_ GE358.out) | exact HB.out)) hb); have n6_ := Aside0.mk (hbox); have n7_ := Aside0.mk ((by rw [hg]; exact (below_size (by repeat (first | (with_reducible first | exact HB.out | apply below_alloc | apply pw_below_drewN | apply below_drew1 | refine below_set ?_ GE358.out) | exact HB.out))) : w.heap.size ≤ gb381)); have n8_ := Aside0.mk ((by rw [hg]; exact (below_size (by repeat (first | (with_reducible first | exact HB.out | apply below_alloc | apply pw_below_drewN | apply below_drew1 | refine below_set ?_ GE358.out) | exact HB.out))) : w.heap.size ≤ gb381)); have n9_ := Aside0.mk ((by rw [hg]; exact Nat.ne_of_lt (blk_lt (g := gb358) (o := .cells #[.slice A0_0 l0_0.length c0_0, .slice A0_1 l0_1.length c0_1, .int .i64 a0_2, .string a0_3, .string a0_4, .int .i64 a0_5] 31 (0, 0)) (by (with_reducible repeat (first | refine blk_drewN ?_ _ | refine blk_drew ?_ | refine blk_alloc ?_ _)); exact BK358.out)) : gb358 ≠ gb381)); have n10_ := Aside0.mk ((by rw [hg]; exact Nat.ne_of_gt (blk_lt (g := gb358) (o := .cells #[.slice A0_0 l0_0.length c0_0, .slice A0_1 l0_1.length c0_1, .int .i64 a0_2, .string a0_3, .string a0_4, .int .i64 a0_5] 31 (0, 0)) (by (with_reducible repeat (first | refine blk_drewN ?_ _ | refine blk_drew ?_ | refine blk_alloc ?_ _)); exact BK358.out)) : gb381 ≠ gb358)); clear HO362; clear HO365; clear HO373; clear HO376; clear BK358; clear HB; have HO362 := n0_; have HO365 := n1_; have HO373 := n2_; have HO376 := n3_; have BK358 := n4_; have HB := n5_; have BK381 := n6_; have GW381 := n7_; have GE381 := n8_; have NB358_381 := n9_; have NB381_358 := n10_; clear n0_ n1_ n2_ n3_ n4_ n5_ n6_ n7_ n8_ n9_ n10_; clear hb hbox hg; obtain ⟨Ao42, co42, eo42⟩ := Kd.S_slice HO373.out; subst eo42; have hnb43 := NB381_358.out; have hnc43 := NB358_381.out; have hcz44_0 : w41.cell? ⟨gb381, 0, none⟩ = some (.slice none 0 0) := (blk_cell BK381.out 0).trans rfl; have hcz44_1 : w41.cell? ⟨gb381, 1, none⟩ = some (.slice none 0 0) := (blk_cell BK381.out 1).trans rfl; have hcz44_2 : w41.cell? ⟨gb381, 2, none⟩ = some (.int .i64 0) := (blk_cell BK381.out 2).trans rfl; have hcz44_3 : w41.cell? ⟨gb381, 3, none⟩ = some (.string (⟨#[]⟩ : ByteArray)) := (blk_cell BK381.out 3).trans rfl; have hcz44_4 : w41.cell? ⟨gb381, 4, none⟩ = some (.string (⟨#[]⟩ : ByteArray)) := (blk_cell BK381.out 4).trans rfl; have hcz44_5 : w41.cell? ⟨gb381, 5, none⟩ = some (.int .i64 0) := (blk_cell BK381.out 5).trans rfl; have hfz44_0 := blk_frozen BK381.out 0; have hfz44_1 := blk_frozen BK381.out 1; have hfz44_2 := blk_frozen BK381.out 2; have hfz44_3 := blk_frozen BK381.out 3; have hfz44_4 := blk_frozen BK381.out 4; have hfz44_5 := blk_frozen BK381.out 5; obtain ⟨Ao45, co45, eo45⟩ := Kd.R_slice HO376.out; subst eo45) | ((with_reducible refine gate_callee (f := 9) rfl ?_); refine goesL_ (some 18) rfl rfl Tryd.func9 (by kernel_rfl) rfl #[.agg #[.slice Ao42 t371.length co42, .slice Ao45 t374.length co45, .int .i64 t377, .string t378, .string t379, .int .i64 t380]] rfl (by (try simp only [List.map_toArray, List.map_cons, List.map_nil]); first | done | rfl | (simp only [List.length_drop, List.length_take]; rfl)) ?_; (with_reducible refine (impl_IsValidConsole.calls k _ _ t371 _ _ t374 t377 t378 t379 t380 t382 _ ?side1 ?side2 ?side3 ?side4 ?side5 A10.out).mono ?_); (case side1 => refine (Kd.S_reads' (e := 44) (base := w.heap.size) (ok := fun k_ => (True ∧ some k_ ≠ (.slice Ao36 t360.length co36 : Value).ownBlock)) (n := t371.length) (c := co42) ?_).2.2; exact (by (with_reducible repeat (first | apply Kd.S_alloc | apply Kd.S_drewN | apply Kd.S_drew)); exact (Kd.S_mono (Kd.S_far (p := ⟨gb381, 5, none⟩) (Kd.S_far (p := ⟨gb381, 4, none⟩) (Kd.S_far (p := ⟨gb381, 3, none⟩) (Kd.S_far (p := ⟨gb381, 2, none⟩) (Kd.S_far (p := ⟨gb381, 1, none⟩) (Kd.S_far (p := ⟨gb381, 0, none⟩) (Kd.S_types HO373.out BK381.out (by decide)) (fun _ hk => hk.2) (.slice Ao42 t371.length co42)) (fun _ hk => hk.2) (.slice Ao45 t374.length co45)) (fun _ hk => hk.2) (.int .i64 t377)) (fun _ hk => hk.2) (.string t378)) (fun _ hk => hk.2) (.string t379)) (fun _ hk => hk.2) (.int .i64 t380)) (fun _ h_ => h_.1)))); (case side2 => exact (Kd.S_reads' HO373.out).2.1); (case side3 => refine (Kd.R_reads' (e := 126) (base := w.heap.size) (ok := fun k_ => (True ∧ some k_ ≠ (.slice Ao37 t363.length co37 : Value).ownBlock)) (n := t374.length) (c := co45) ?_).2.2; exact (by (with_reducible repeat (first | apply Kd.R_alloc | apply Kd.R_drewN | apply Kd.R_drew)); exact (Kd.R_mono (Kd.R_far (p := ⟨gb381, 5, none⟩) (Kd.R_far (p := ⟨gb381, 4, none⟩) (Kd.R_far (p := ⟨gb381, 3, none⟩) (Kd.R_far (p := ⟨gb381, 2, none⟩) (Kd.R_far (p := ⟨gb381, 1, none⟩) (Kd.R_far (p := ⟨gb381, 0, none⟩) (Kd.R_types HO376.out BK381.out (by decide)) (fun _ hk => hk.2) (.slice Ao42 t371.length co42)) (fun _ hk => hk.2) (.slice Ao45 t374.length co45)) (fun _ hk => hk.2) (.int .i64 t377)) (fun _ hk => hk.2) (.string t378)) (fun _ hk => hk.2) (.string t379)) (fun _ hk => hk.2) (.int .i64 t380)) (fun _ h_ => h_.1)))); (case side4 => exact (Kd.R_reads' HO376.out).2.1); (case side5 => exact TabOK.below HT.out (by repeat (first | (with_reducible first | exact HB.out | apply below_alloc | apply pw_below_drewN | apply below_drew1 | refine below_set ?_ GE358.out | refine below_set ?_ GE381.out) | exact HB.out))); rintro e w46 ⟨rfl, hb⟩; refine ⟨_, rfl, ?_⟩; have n0_ := Aside0.mk (Kd.S_below (by (with_reducible repeat (first | apply Kd.S_alloc | apply Kd.S_drewN | apply Kd.S_drew)); exact (Kd.S_mono (Kd.S_far (p := ⟨gb381, 5, none⟩) (Kd.S_far (p := ⟨gb381, 4, none⟩) (Kd.S_far (p := ⟨gb381, 3, none⟩) (Kd.S_far (p := ⟨gb381, 2, none⟩) (Kd.S_far (p := ⟨gb381, 1, none⟩) (Kd.S_far (p := ⟨gb381, 0, none⟩) (Kd.S_types HO362.out BK381.out (by decide)) (fun _ hk => hk.2) (.slice Ao42 t371.length co42)) (fun _ hk => hk.2) (.slice Ao45 t374.length co45)) (fun _ hk => hk.2) (.int .i64 t377)) (fun _ hk => hk.2) (.string t378)) (fun _ hk => hk.2) (.string t379)) (fun _ hk => hk.2) (.int .i64 t380)) (fun _ h_ => h_.1))) hb); have n1_ := Aside0.mk (Kd.R_below (by (with_reducible repeat (first | apply Kd.R_alloc | apply Kd.R_drewN | apply Kd.R_drew)); exact (Kd.R_mono (Kd.R_far (p := ⟨gb381, 5, none⟩) (Kd.R_far (p := ⟨gb381, 4, none⟩) (Kd.R_far (p := ⟨gb381, 3, none⟩) (Kd.R_far (p := ⟨gb381, 2, none⟩) (Kd.R_far (p := ⟨gb381, 1, none⟩) (Kd.R_far (p := ⟨gb381, 0, none⟩) (Kd.R_types HO365.out BK381.out (by decide)) (fun _ hk => hk.2) (.slice Ao42 t371.length co42)) (fun _ hk => hk.2) (.slice Ao45 t374.length co45)) (fun _ hk => hk.2) (.int .i64 t377)) (fun _ hk => hk.2) (.string t378)) (fun _ hk => hk.2) (.string t379)) (fun _ hk => hk.2) (.int .i64 t380)) (fun _ h_ => h_.1))) hb); have n2_ := Aside0.mk (Kd.S_below (by (with_reducible repeat (first | apply Kd.S_alloc | apply Kd.S_drewN | apply Kd.S_drew)); exact (Kd.S_mono (Kd.S_far (p := ⟨gb381, 5, none⟩) (Kd.S_far (p := ⟨gb381, 4, none⟩) (Kd.S_far (p := ⟨gb381, 3, none⟩) (Kd.S_far (p := ⟨gb381, 2, none⟩) (Kd.S_far (p := ⟨gb381, 1, none⟩) (Kd.S_far (p := ⟨gb381, 0, none⟩) (Kd.S_types HO373.out BK381.out (by decide)) (fun _ hk => hk.2) (.slice Ao42 t371.length co42)) (fun _ hk => hk.2) (.slice Ao45 t374.length co45)) (fun _ hk => hk.2) (.int .i64 t377)) (fun _ hk => hk.2) (.string t378)) (fun _ hk => hk.2) (.string t379)) (fun _ hk => hk.2) (.int .i64 t380)) (fun _ h_ => h_.1))) hb); have n3_ := Aside0.mk (Kd.R_below (by (with_reducible repeat (first | apply Kd.R_alloc | apply Kd.R_drewN | apply Kd.R_drew)); exact (Kd.R_mono (Kd.R_far (p := ⟨gb381, 5, none⟩) (Kd.R_far (p := ⟨gb381, 4, none⟩) (Kd.R_far (p := ⟨gb381, 3, none⟩) (Kd.R_far (p := ⟨gb381, 2, none⟩) (Kd.R_far (p := ⟨gb381, 1, none⟩) (Kd.R_far (p := ⟨gb381, 0, none⟩) (Kd.R_types HO376.out BK381.out (by decide)) (fun _ hk => hk.2) (.slice Ao42 t371.length co42)) (fun _ hk => hk.2) (.slice Ao45 t374.length co45)) (fun _ hk => hk.2) (.int .i64 t377)) (fun _ hk => hk.2) (.string t378)) (fun _ hk => hk.2) (.string t379)) (fun _ hk => hk.2) (.int .i64 t380)) (fun _ h_ => h_.1))) hb); have n4_ := Aside0.mk (blk_below (g := gb358) (o := .cells #[.slice A0_0 l0_0.length c0_0, .slice A0_1 l0_1.length c0_1, .int .i64 a0_2, .string a0_3, .string a0_4, .int .i64 a0_5] 31 (0, 0)) (by (with_reducible repeat (first | refine blk_drewN ?_ _ | refine blk_drew ?_ | refine blk_alloc ?_ _)); refine blk_far ?_ NB358_381.out _; (with_reducible repeat (first | refine blk_drewN ?_ _ | refine blk_drew ?_ | refine blk_alloc ?_ _)); refine blk_far ?_ NB358_381.out _; (with_reducible repeat (first | refine blk_drewN ?_ _ | refine blk_drew ?_ | refine blk_alloc ?_ _)); refine blk_far ?_ NB358_381.out _; (with_reducible repeat (first | refine blk_drewN ?_ _ | refine blk_drew ?_ | refine blk_alloc ?_ _)); refine blk_far ?_ NB358_381.out _; (with_reducible repeat (first | refine blk_drewN ?_ _ | refine blk_drew ?_ | refine blk_alloc ?_ _)); refine blk_far ?_ NB358_381.out _; (with_reducible repeat (first | refine blk_drewN ?_ _ | refine blk_drew ?_ | refine blk_alloc ?_ _)); refine blk_far ?_ NB358_381.out _; (with_reducible repeat (first | refine blk_drewN ?_ _ | refine blk_drew ?_ | refine blk_alloc ?_ _)); exact BK358.out) hb); have n5_ := Aside0.mk (blk_below (g := gb381) (o := .cells #[.slice Ao42 t371.length co42, .slice Ao45 t374.length co45, .int .i64 t377, .string t378, .string t379, .int .i64 t380] 40 (0, 0)) (by (with_reducible repeat (first | refine blk_drewN ?_ _ | refine blk_drew ?_ | refine blk_alloc ?_ _)); refine blk_put (cs := #[.slice Ao42 t371.length co42, .slice Ao45 t374.length co45, .int .i64 t377, .string t378, .string t379, .int .i64 0]) ?_ 5 _ rfl; (with_reducible repeat (first | refine blk_drewN ?_ _ | refine blk_drew ?_ | refine blk_alloc ?_ _)); refine blk_put (cs := #[.slice Ao42 t371.length co42, .slice Ao45 t374.length co45, .int .i64 t377, .string t378, .string (⟨#[]⟩ : ByteArray), .int .i64 0]) ?_ 4 _ rfl; (with_reducible repeat (first | refine blk_drewN ?_ _ | refine blk_drew ?_ | refine blk_alloc ?_ _)); refine blk_put (cs := #[.slice Ao42 t371.length co42, .slice Ao45 t374.length co45, .int .i64 t377, .string (⟨#[]⟩ : ByteArray), .string (⟨#[]⟩ : ByteArray), .int .i64 0]) ?_ 3 _ rfl; (with_reducible repeat (first | refine blk_drewN ?_ _ | refine blk_drew ?_ | refine blk_alloc ?_ _)); refine blk_put (cs := #[.slice Ao42 t371.length co42, .slice Ao45 t374.length co45, .int .i64 0, .string (⟨#[]⟩ : ByteArray), .string (⟨#[]⟩ : ByteArray), .int .i64 0]) ?_ 2 _ rfl; (with_reducible repeat (first | refine blk_drewN ?_ _ | refine blk_drew ?_ | refine blk_alloc ?_ _)); refine blk_put (cs := #[.slice Ao42 t371.length co42, .slice none 0 0, .int .i64 0, .string (⟨#[]⟩ : ByteArray), .string (⟨#[]⟩ : ByteArray), .int .i64 0]) ?_ 1 _ rfl; (with_reducible repeat (first | refine blk_drewN ?_ _ | refine blk_drew ?_ | refine blk_alloc ?_ _)); refine blk_put (cs := #[.slice none 0 0, .slice none 0 0, .int .i64 0, .string (⟨#[]⟩ : ByteArray), .string (⟨#[]⟩ : ByteArray), .int .i64 0]) ?_ 0 _ rfl; (with_reducible repeat (first | refine blk_drewN ?_ _ | refine blk_drew ?_ | refine blk_alloc ?_ _)); exact BK381.out) hb); have n6_ := Aside0.mk (below_step (by repeat (first | (with_reducible first | exact HB.out | apply below_alloc | apply pw_below_drewN | apply below_drew1 | refine below_set ?_ GE358.out | refine below_set ?_ GE381.out) | exact HB.out)) hb); clear HO362; clear HO365; clear HO373; clear HO376; clear BK358; clear BK381; clear HB; have HO362 := n0_; have HO365 := n1_; have HO373 := n2_; have HO376 := n3_; have BK358 := n4_; have BK381 := n5_; have HB := n6_; clear n0_ n1_ n2_ n3_ n4_ n5_ n6_; (try clear hb); (try clear hb2); (try clear hk); (try clear hi)))
        have n0_ := Aside0.mk (Kd.S_drew HO362.out)
        have n1_ := Aside0.mk (Kd.R_drew HO365.out)
        have n2_ := Aside0.mk (Kd.S_drew HO373.out)
        have n3_ := Aside0.mk (Kd.R_drew HO376.out)
        have n4_ := Aside0.mk (blk_drew BK358.out)
        have n5_ := Aside0.mk (blk_drew BK381.out)
        have n6_ := Aside0.mk (below_drew1 HB.out)
        clear HO362
        clear HO365
        clear HO373
        clear HO376
        clear BK358
        clear BK381
        clear HB
        have HO362 := n0_
        have HO365 := n1_
        have HO373 := n2_
        have HO376 := n3_
        have BK358 := n4_
        have BK381 := n5_
        have HB := n6_
        clear n0_ n1_ n2_ n3_ n4_ n5_ n6_
        refine start_ (n := 5) (S := fun w' => w'.cell? ⟨gb381, 0, none⟩ = some (.slice Ao42 t371.length co42) ∧ w'.cell? ⟨gb381, 1, none⟩ = some (.slice Ao45 t374.length co45) ∧ w'.cell? ⟨gb381, 2, none⟩ = some (.int .i64 t377) ∧ w'.cell? ⟨gb381, 3, none⟩ = some (.string t378) ∧ w'.cell? ⟨gb381, 4, none⟩ = some (.string t379) ∧ w'.cell? ⟨gb381, 5, none⟩ = some (.int .i64 t380) ∧ w'.cell? ⟨gb358, 0, none⟩ = some (.slice A0_0 l0_0.length c0_0) ∧ w'.cell? ⟨gb358, 1, none⟩ = some (.slice A0_1 l0_1.length c0_1) ∧ w'.cell? ⟨gb358, 2, none⟩ = some (.int .i64 a0_2) ∧ w'.cell? ⟨gb358, 3, none⟩ = some (.string a0_3) ∧ w'.cell? ⟨gb358, 4, none⟩ = some (.string a0_4) ∧ w'.cell? ⟨gb358, 5, none⟩ = some (.int .i64 a0_5)) (ds := []) #[false, false, false, false, false] (by kernel_rfl) rfl rfl ⟨(blk_cell BK381.out 0).trans rfl, (blk_cell BK381.out 1).trans rfl, (blk_cell BK381.out 2).trans rfl, (blk_cell BK381.out 3).trans rfl, (blk_cell BK381.out 4).trans rfl, (blk_cell BK381.out 5).trans rfl, (blk_cell BK358.out 0).trans rfl, (blk_cell BK358.out 1).trans rfl, (blk_cell BK358.out 2).trans rfl, (blk_cell BK358.out 3).trans rfl, (blk_cell BK358.out 4).trans rfl, (blk_cell BK358.out 5).trans rfl⟩ (fun hHeld => ?_)
        generalize w46.drew = w47 at HO362 HO365 HO373 HO376 BK358 BK381 HB hHeld ⊢
        refine take_ (i := 0) (N := some 22) (v := ?_) (a' := ?_) #[true, false, false, false, false] rfl rfl (by kernel_rfl) (fun _ _ _ h => h) (Or.inl ⟨by rfl, ?_⟩) hHeld ?_ ?_
        rotate_left
        · rintro w' ⟨s0, s1, s2, s3, s4, s5, s6, s7, s8, s9, s10, s11⟩
          go_simp
          with_reducible rfl
        rotate_left
        · simp only [Act.put, List.setIfInBounds_toArray, List.set_cons_zero, List.set_cons_succ, i64_w, i32_w]
          rfl
        refine take_ (i := 1) (N := some 23) (v := ?_) (a' := ?_) #[true, true, false, false, false] rfl rfl (by kernel_rfl) (fun _ _ _ h => h) (Or.inl ⟨by rfl, ?_⟩) hHeld ?_ ?_
        rotate_left
        · rintro w' ⟨s0, s1, s2, s3, s4, s5, s6, s7, s8, s9, s10, s11⟩
          go_simp
          with_reducible rfl
        rotate_left
        · simp only [Act.put, List.setIfInBounds_toArray, List.set_cons_zero, List.set_cons_succ, i64_w, i32_w]
          rfl
        refine one_ (i := 2) (N := some 24) #[true, true, true, false, false] rfl rfl (by kernel_rfl) (by decide) (fun K hK => ?_)
        refine goes_ Tryd.func8 (by kernel_rfl) rfl #[.agg #[.slice A0_0 l0_0.length c0_0, .slice A0_1 l0_1.length c0_1, .int .i64 a0_2, .string a0_3, .string a0_4, .int .i64 a0_5]] (by rfl) rfl rfl (by (try simp only [List.map_toArray, List.map_cons, List.map_nil]); first | done | rfl | (simp only [List.length_drop, List.length_take]; rfl)) ?_
        with_reducible refine (laws_toConsole.calls k _ _ l0_0 _ _ l0_1 a0_2 a0_3 a0_4 a0_5 t383 t386 t389 t390 t391 t392 _ ?side1 ?side2 ?side3 ?side4 A28.out).mono ?_
        (case side1 => repeat (first | exact (Kd.C_below HR0_0.out HB.out) | (with_reducible refine Kd.C_alloc ?_ _) | (with_reducible refine Kd.C_drewN ?_ _) | (with_reducible refine Kd.C_drew ?_)))
        (case side2 => exact HC0_0.out)
        (case side3 => repeat (first | exact (Kd.C_below HR0_1.out HB.out) | (with_reducible refine Kd.C_alloc ?_ _) | (with_reducible refine Kd.C_drewN ?_ _) | (with_reducible refine Kd.C_drew ?_)))
        (case side4 => exact HC0_1.out)
        rintro e w48 ⟨v384, v387, rfl, ho0, ho1, hb⟩
        refine ⟨_, rfl, ?_⟩
        have n0_ := Aside0.mk (Kd.S_elder' (by (with_reducible repeat (first | apply Kd.S_alloc | apply Kd.S_drewN | apply Kd.S_drew)); exact HO362.out) (Kd.S_base ho0) hb)
        have n1_ := Aside0.mk (Kd.R_elder' (by (with_reducible repeat (first | apply Kd.R_alloc | apply Kd.R_drewN | apply Kd.R_drew)); exact HO365.out) (Kd.R_base ho1) hb)
        have n2_ := Aside0.mk (Kd.S_elder' (by (with_reducible repeat (first | apply Kd.S_alloc | apply Kd.S_drewN | apply Kd.S_drew)); exact HO373.out) (Kd.S_base ho0) hb)
        have n3_ := Aside0.mk (Kd.R_elder' (by (with_reducible repeat (first | apply Kd.R_alloc | apply Kd.R_drewN | apply Kd.R_drew)); exact HO376.out) (Kd.R_base ho1) hb)
        have n4_ := Aside0.mk (Kd.S_lower (Kd.S_new' (Kd.S_new' ho0 (Kd.S_lt (by (with_reducible repeat (first | apply Kd.S_alloc | apply Kd.S_drewN | apply Kd.S_drew)); exact HO362.out))) (Kd.S_lt (by (with_reducible repeat (first | apply Kd.S_alloc | apply Kd.S_drewN | apply Kd.S_drew)); exact HO373.out))) (below_size (by repeat (first | (with_reducible first | exact HB.out | apply below_alloc | apply pw_below_drewN | apply below_drew1 | refine below_set ?_ GE358.out | refine below_set ?_ GE381.out) | exact HB.out))))
        have n5_ := Aside0.mk (Kd.R_lower (Kd.R_new' (Kd.R_new' ho1 (Kd.R_lt (by (with_reducible repeat (first | apply Kd.R_alloc | apply Kd.R_drewN | apply Kd.R_drew)); exact HO365.out))) (Kd.R_lt (by (with_reducible repeat (first | apply Kd.R_alloc | apply Kd.R_drewN | apply Kd.R_drew)); exact HO376.out))) (below_size (by repeat (first | (with_reducible first | exact HB.out | apply below_alloc | apply pw_below_drewN | apply below_drew1 | refine below_set ?_ GE358.out | refine below_set ?_ GE381.out) | exact HB.out))))
        have n6_ := Aside0.mk (blk_below (g := gb358) (o := .cells #[.slice A0_0 l0_0.length c0_0, .slice A0_1 l0_1.length c0_1, .int .i64 a0_2, .string a0_3, .string a0_4, .int .i64 a0_5] 31 (0, 0)) (by (with_reducible repeat (first | refine blk_drewN ?_ _ | refine blk_drew ?_ | refine blk_alloc ?_ _)); exact BK358.out) hb)
        have n7_ := Aside0.mk (blk_below (g := gb381) (o := .cells #[.slice Ao42 t371.length co42, .slice Ao45 t374.length co45, .int .i64 t377, .string t378, .string t379, .int .i64 t380] 40 (0, 0)) (by (with_reducible repeat (first | refine blk_drewN ?_ _ | refine blk_drew ?_ | refine blk_alloc ?_ _)); exact BK381.out) hb)
        have n8_ := Aside0.mk (below_step (by repeat (first | (with_reducible first | exact HB.out | apply below_alloc | apply pw_below_drewN | apply below_drew1 | refine below_set ?_ GE358.out | refine below_set ?_ GE381.out) | exact HB.out)) hb)
        clear HO362
        clear HO365
        clear HO373
        clear HO376
        clear BK358
        clear BK381
        clear HB
        have HO362 := n0_
        have HO365 := n1_
        have HO373 := n2_
        have HO376 := n3_
        have HO385 := n4_
        have HO388 := n5_
        have BK358 := n6_
        have BK381 := n7_
        have HB := n8_
        clear n0_ n1_ n2_ n3_ n4_ n5_ n6_ n7_ n8_
        (try clear hb)
        (try clear hb2)
        (try clear hk)
        (try clear hi)
        (try clear ho0)
        (try clear ho1)
        obtain ⟨Ao49, co49, eo49⟩ := Kd.S_slice HO385.out
        (first | subst eo49 | (injection eo49 with f1_ f2_ f3_; have f4_ := f1_.symm; have f5_ := f3_.symm; clear f1_ f2_ f3_; subst f4_; subst f5_))
        obtain ⟨Ao50, co50, eo50⟩ := Kd.R_slice HO388.out
        (first | subst eo50 | (injection eo50 with f1_ f2_ f3_; have f4_ := f1_.symm; have f5_ := f3_.symm; clear f1_ f2_ f3_; subst f4_; subst f5_))
        refine hK.out _ _ ⟨(blk_cell BK381.out 0).trans rfl, (blk_cell BK381.out 1).trans rfl, (blk_cell BK381.out 2).trans rfl, (blk_cell BK381.out 3).trans rfl, (blk_cell BK381.out 4).trans rfl, (blk_cell BK381.out 5).trans rfl, (blk_cell BK358.out 0).trans rfl, (blk_cell BK358.out 1).trans rfl, (blk_cell BK358.out 2).trans rfl, (blk_cell BK358.out 3).trans rfl, (blk_cell BK358.out 4).trans rfl, (blk_cell BK358.out 5).trans rfl⟩ (fun hHeld => ?_)
        clear hK K
        refine norm_ (a' := ?_) ?_ ?_
        rotate_left
        · show Act.put _ (some 24) _ = _
          simp only [Act.put, List.setIfInBounds_toArray, List.set_cons_zero, List.set_cons_succ, i64_w, i32_w]
          rfl
        refine one_ (i := 3) (N := some 25) #[true, true, true, true, false] rfl rfl (by kernel_rfl) (by decide) (fun K hK => ?_)
        refine goes_ Tryd.func10 (by kernel_rfl) rfl #[.agg #[.slice Ao42 t371.length co42, .slice Ao45 t374.length co45, .int .i64 t377, .string t378, .string t379, .int .i64 t380], .agg #[.slice Ao49 t383.length co49, .slice Ao50 t386.length co50, .int .i64 t389, .string t390, .string t391, .int .i64 t392]] (by rfl) rfl rfl (by (try simp only [List.map_toArray, List.map_cons, List.map_nil]); first | done | rfl | (simp only [List.length_drop, List.length_take]; rfl)) ?_
        with_reducible refine (laws_eqConsole.calls k _ _ t371 _ _ t374 t377 t378 t379 t380 _ _ t383 _ _ t386 t389 t390 t391 t392 true _ ?side1 ?side2 ?side3 ?side4 ?side5 ?side6 ?side7 ?side8 A29.out).mono ?_
        (case side1 => repeat (first | exact (Kd.S_reads' HO373.out).2.2 | (with_reducible refine Kd.C_alloc ?_ _) | (with_reducible refine Kd.C_drewN ?_ _) | (with_reducible refine Kd.C_drew ?_)))
        (case side2 => exact (Kd.S_reads' HO373.out).2.1)
        (case side3 => repeat (first | exact (Kd.R_reads' HO376.out).2.2 | (with_reducible refine Kd.C_alloc ?_ _) | (with_reducible refine Kd.C_drewN ?_ _) | (with_reducible refine Kd.C_drew ?_)))
        (case side4 => exact (Kd.R_reads' HO376.out).2.1)
        (case side5 => repeat (first | exact (Kd.S_reads' HO385.out).2.2 | (with_reducible refine Kd.C_alloc ?_ _) | (with_reducible refine Kd.C_drewN ?_ _) | (with_reducible refine Kd.C_drew ?_)))
        (case side6 => exact (Kd.S_reads' HO385.out).2.1)
        (case side7 => repeat (first | exact (Kd.R_reads' HO388.out).2.2 | (with_reducible refine Kd.C_alloc ?_ _) | (with_reducible refine Kd.C_drewN ?_ _) | (with_reducible refine Kd.C_drew ?_)))
        (case side8 => exact (Kd.R_reads' HO388.out).2.1)
        rintro e w51 ⟨rfl, hb⟩
        refine ⟨_, rfl, ?_⟩
        have n0_ := Aside0.mk (Kd.S_below (by (with_reducible repeat (first | apply Kd.S_alloc | apply Kd.S_drewN | apply Kd.S_drew)); exact HO362.out) hb)
        have n1_ := Aside0.mk (Kd.R_below (by (with_reducible repeat (first | apply Kd.R_alloc | apply Kd.R_drewN | apply Kd.R_drew)); exact HO365.out) hb)
        have n2_ := Aside0.mk (Kd.S_below (by (with_reducible repeat (first | apply Kd.S_alloc | apply Kd.S_drewN | apply Kd.S_drew)); exact HO373.out) hb)
        have n3_ := Aside0.mk (Kd.R_below (by (with_reducible repeat (first | apply Kd.R_alloc | apply Kd.R_drewN | apply Kd.R_drew)); exact HO376.out) hb)
        have n4_ := Aside0.mk (Kd.S_below (by (with_reducible repeat (first | apply Kd.S_alloc | apply Kd.S_drewN | apply Kd.S_drew)); exact HO385.out) hb)
        have n5_ := Aside0.mk (Kd.R_below (by (with_reducible repeat (first | apply Kd.R_alloc | apply Kd.R_drewN | apply Kd.R_drew)); exact HO388.out) hb)
        have n6_ := Aside0.mk (blk_below (g := gb358) (o := .cells #[.slice A0_0 l0_0.length c0_0, .slice A0_1 l0_1.length c0_1, .int .i64 a0_2, .string a0_3, .string a0_4, .int .i64 a0_5] 31 (0, 0)) (by (with_reducible repeat (first | refine blk_drewN ?_ _ | refine blk_drew ?_ | refine blk_alloc ?_ _)); exact BK358.out) hb)
        have n7_ := Aside0.mk (blk_below (g := gb381) (o := .cells #[.slice Ao42 t371.length co42, .slice Ao45 t374.length co45, .int .i64 t377, .string t378, .string t379, .int .i64 t380] 40 (0, 0)) (by (with_reducible repeat (first | refine blk_drewN ?_ _ | refine blk_drew ?_ | refine blk_alloc ?_ _)); exact BK381.out) hb)
        have n8_ := Aside0.mk (below_step (by repeat (first | (with_reducible first | exact HB.out | apply below_alloc | apply pw_below_drewN | apply below_drew1 | refine below_set ?_ GE358.out | refine below_set ?_ GE381.out) | exact HB.out)) hb)
        clear HO362
        clear HO365
        clear HO373
        clear HO376
        clear HO385
        clear HO388
        clear BK358
        clear BK381
        clear HB
        have HO362 := n0_
        have HO365 := n1_
        have HO373 := n2_
        have HO376 := n3_
        have HO385 := n4_
        have HO388 := n5_
        have BK358 := n6_
        have BK381 := n7_
        have HB := n8_
        clear n0_ n1_ n2_ n3_ n4_ n5_ n6_ n7_ n8_
        (try clear hb)
        (try clear hb2)
        (try clear hk)
        (try clear hi)
        refine hK.out _ _ ⟨(blk_cell BK381.out 0).trans rfl, (blk_cell BK381.out 1).trans rfl, (blk_cell BK381.out 2).trans rfl, (blk_cell BK381.out 3).trans rfl, (blk_cell BK381.out 4).trans rfl, (blk_cell BK381.out 5).trans rfl, (blk_cell BK358.out 0).trans rfl, (blk_cell BK358.out 1).trans rfl, (blk_cell BK358.out 2).trans rfl, (blk_cell BK358.out 3).trans rfl, (blk_cell BK358.out 4).trans rfl, (blk_cell BK358.out 5).trans rfl⟩ (fun hHeld => ?_)
        clear hK K
        refine norm_ (a' := ?_) ?_ ?_
        rotate_left
        · show Act.put _ (some 25) _ = _
          simp only [Act.put, List.setIfInBounds_toArray, List.set_cons_zero, List.set_cons_succ, i64_w, i32_w]
          rfl
        refine pure_ (i := 4) (N := some 26) (v := ?_) (a' := ?_) #[true, true, true, true, true] rfl rfl (by kernel_rfl) (fun _ _ _ h => h) (Or.inl ⟨by rfl, ?_⟩) ?_ ?_
        rotate_left
        · intro w'
          go_simp
          with_reducible rfl
        rotate_left
        · simp only [Act.put, List.setIfInBounds_toArray, List.set_cons_zero, List.set_cons_succ, i64_w, i32_w]
          rfl
        refine done_ (by kernel_rfl) ?_
        try go_wp2
        go_ret
        exact ⟨by first | rfl | (simp [errW_none, errW_some] <;> rfl) | (simp [*, errW_none, errW_some] <;> rfl), by repeat (first | (with_reducible first | exact HB.out | apply below_alloc | apply pw_below_drewN | apply below_drew1 | refine below_set ?_ GE358.out | refine below_set ?_ GE381.out) | exact HB.out)⟩
      · replace c30 := Bool.eq_false_iff.mpr c30
        subst c30
        have H1 : (some false) = some true := by rw [if_neg (show ¬ (false = true) by decide)] at H; exact H
        clear H
        have H := H1
        clear H1
        exact absurd (Option.some.inj H) (by decide)
end Go.Proofs.YtaceoijcjkbgfaaDoor.P
namespace Go.Proofs.YtaceoijcjkbgfaaDoor.P
open Go.RowKit Go.Proofs.YtaceoijcjkbgfaaDoorW.PrintWords Go.Proofs.YtaceoijcjkbgfaaDoorW.PrintLast Go.Proofs.YtaceoijcjkbgfaaDoorW.PrintMore
set_option linter.unusedVariables false

/-- From some number of rounds on, F tells r. -/
def Ter {α : Type} (F : Nat → Option α) (r : α) : Prop := ∃ K, ∀ k, K ≤ k → F k = some r

theorem Ter.const {α : Type} {o : Option α} {r : α} (h : o = some r) : Ter (fun _ => o) r := ⟨0, fun _ _ => h⟩

theorem Ter.ret {α : Type} (r : α) : Ter (fun _ => some r) r := ⟨0, fun _ _ => rfl⟩

theorem Ter.succ {α : Type} {F : Nat → Option α} {r : α} (h : Ter (fun k => F (k + 1)) r) : Ter F r := by
  obtain ⟨K, h⟩ := h
  refine ⟨K + 1, fun k hk => ?_⟩
  obtain ⟨j, rfl⟩ : ∃ j, k = j + 1 := ⟨k - 1, by omega⟩
  exact h j (by omega)

theorem Ter.bind {α β : Type} {F : Nat → Option α} {G : Nat → α → Option β} {a : α} {b : β} (h1 : Ter F a) (h2 : Ter (fun k => G k a) b) : Ter (fun k => (F k).bind (G k)) b := by
  obtain ⟨K1, h1⟩ := h1
  obtain ⟨K2, h2⟩ := h2
  refine ⟨K1 + K2, fun k hk => ?_⟩
  show (F k).bind (G k) = _
  rw [h1 k (by omega)]
  exact h2 k (by omega)

theorem Ter.ifp {α : Type} {c : Prop} [Decidable c] {F G : Nat → Option α} {r : α} (h : c) (h1 : Ter F r) : Ter (fun k => if c then F k else G k) r := by
  simp only [if_pos h]
  exact h1

theorem Ter.ifn {α : Type} {c : Prop} [Decidable c] {F G : Nat → Option α} {r : α} (h : ¬ c) (h1 : Ter G r) : Ter (fun k => if c then F k else G k) r := by
  simp only [if_neg h]
  exact h1

theorem Ter.congr {α : Type} {F G : Nat → Option α} {r : α} (h : ∀ k, F k = G k) (h1 : Ter G r) : Ter F r := by
  obtain ⟨K, h1⟩ := h1
  exact ⟨K, fun k hk => (h k).trans (h1 k hk)⟩

theorem Ter.eq {α : Type} {F : Nat → Option α} {r s : α} (h : Ter F r) (e : r = s) : Ter F s := e ▸ h

theorem Ter.at {α : Type} {F : Nat → Option α} {r : α} (h : Ter F r) : ∃ K, ∀ k, K ≤ k → F k = some r := h

/-- Down from the last index. -/
theorem down_ {Q : Nat → Prop} (n : Nat) (fin : Q n) (step : ∀ i, i < n → Q (i + 1) → Q i) : ∀ i, i ≤ n → Q i := by
  have h : ∀ j i, i + j = n → Q i := by
    intro j
    induction j with
    | zero => intro i h; have : i = n := by omega
              exact this ▸ fin
    | succ j ih => intro i h; exact step i (by omega) (ih (i + 1) (by omega))
  intro i hi
  exact h (n - i) i (by omega)

theorem w64 {n : Int} (h0 : -9223372036854775808 ≤ n) (h1 : n ≤ 9223372036854775807) : wrap64 n = n := by unfold wrap64; omega

theorem w64s {i n : Nat} (h : i < n) (hn : n ≤ 9223372036854775807) : wrap64 ((i : Int) + 1) = ((i + 1 : Nat) : Int) := by
  rw [w64 (by omega) (by omega)]
  omega

theorem maxLen_ : maxLen = 9223372036854775807 := rfl

theorem getD_at {α : Type} {xs : List α} {d : α} {i : Nat} (h : i < xs.length) : xs.getD ((i : Int)).toNat d = xs[i] := by
  rw [Int.toNat_natCast, List.getD_eq_getElem?_getD, List.getElem?_eq_getElem h]
  rfl

theorem rd_at {xs : List Int} {i : Nat} (h : i < xs.length) : rd xs (i : Int) = xs[i] := getD_at h

theorem fill_set {α : Type} {xs : List α} {z : α} {i : Nat} (h : i < xs.length) : (xs.take i ++ List.replicate (xs.length - i) z).set ((i : Int)).toNat xs[i] = xs.take (i + 1) ++ List.replicate (xs.length - (i + 1)) z := by
  rw [Int.toNat_natCast]
  apply List.ext_getElem?
  intro j
  by_cases hj : j = i
  · subst hj
    rw [List.getElem?_set_self (by simp; omega), List.getElem?_append_left (by simp; omega), List.getElem?_take_of_lt (by omega), List.getElem?_eq_getElem h]
  · rw [List.getElem?_set_ne (by omega)]
    by_cases h1 : j < i
    · rw [List.getElem?_append_left (by simp; omega), List.getElem?_append_left (by simp; omega), List.getElem?_take_of_lt h1, List.getElem?_take_of_lt (by omega)]
    · rw [List.getElem?_append_right (by simp; omega), List.getElem?_append_right (by simp; omega)]
      simp only [List.length_take, List.getElem?_replicate]
      rw [show min i xs.length = i by omega, show min (i + 1) xs.length = i + 1 by omega]
      by_cases h2 : j < xs.length
      · rw [if_pos (by omega), if_pos (by omega)]
      · rw [if_neg (by omega), if_neg (by omega)]

theorem fill_len {α : Type} {xs : List α} {z : α} {i : Nat} (h : i ≤ xs.length) : (xs.take i ++ List.replicate (xs.length - i) z).length = xs.length := by
  simp
  omega

theorem fill_all {α : Type} {xs : List α} {z : α} : xs.take xs.length ++ List.replicate (xs.length - xs.length) z = xs := by simp

theorem take_one {α : Type} {xs : List α} {i : Nat} (h : i < xs.length) : xs.take i ++ [xs[i]] = xs.take (i + 1) := by
  rw [List.take_add_one, List.getElem?_eq_getElem h]
  rfl
end Go.Proofs.YtaceoijcjkbgfaaDoor.P
namespace Go.Proofs.YtaceoijcjkbgfaaDoor.P
open Go.RowKit Go.Proofs.YtaceoijcjkbgfaaDoorW.PrintWords Go.Proofs.YtaceoijcjkbgfaaDoorW.PrintLast Go.Proofs.YtaceoijcjkbgfaaDoorW.PrintMore
set_option linter.unusedVariables false

def Small {α : Type} (l : List α) : Prop := l.length ≤ 1048576

theorem Small.le {α : Type} {l : List α} (h : Small l) : l.length ≤ 1048576 := h

theorem szByteS_is {l : List Int} {a : Int} (h0 : 0 ≤ a) (h1 : a ≤ 1048576) (hl : l.length ≤ maxLen) : ∃ r, laws_szByteS.f l a = some r ∧ (r < 0 ∨ (0 ≤ r ∧ r ≤ a ∧ Small l)) := by
  rw [maxLen_] at hl
  unfold laws_szByteS.f Small
  rw [w64 (by omega) (by omega)]
  by_cases h : a - (l.length : Int) < 0
  · rw [if_pos h]; exact ⟨_, rfl, .inl (by omega)⟩
  · rw [if_neg h]; exact ⟨_, rfl, .inr (by omega)⟩

theorem szByteSS_is {l : List (List Int)} {a : Int} (h0 : 0 ≤ a) (h1 : a ≤ 1048576) (hl : l.length ≤ maxLen ∧ ∀ z ∈ l, z.length ≤ maxLen) : ∃ r, Ter (fun k => laws_szByteSS.f k l a) r ∧ (r < 0 ∨ (0 ≤ r ∧ r ≤ a ∧ Small l ∧ ∀ z ∈ l, Small z)) := by
  have hl1 := hl.1
  rw [maxLen_] at hl1
  unfold laws_szByteSS.f
  rw [w64 (by omega) (by omega)]
  by_cases h : a - (l.length : Int) < 0
  · simp only [if_pos h]; exact ⟨_, Ter.ret _, .inl (by omega)⟩
  · simp only [if_neg h]
    have hs : Small l := by unfold Small; omega
    have key := down_ (Q := fun i => ∀ b, 0 ≤ b → b ≤ a → ∃ r, Ter (fun k => laws_szByteSS.l0 k l b (i : Int)) r ∧ (r < 0 ∨ (0 ≤ r ∧ r ≤ b ∧ ∀ j, i ≤ j → ∀ hj : j < l.length, Small l[j]))) l.length
      (fun b hb0 hb1 => ⟨b, Ter.succ (by simp only [laws_szByteSS.l0]; exact Ter.ifn (by omega) (Ter.ret _)), .inr ⟨hb0, Int.le_refl _, fun j h1 h2 => by omega⟩⟩)
      (fun i hi ih b hb0 hb1 => by
        obtain ⟨r, hr, hr2⟩ := szByteS_is (l := l[i]) hb0 (by omega) (hl.2 _ (List.getElem_mem hi))
        rcases hr2 with hr2 | ⟨hr2, hr3, hr4⟩
        · refine ⟨-1, Ter.succ ?_, .inl (by omega)⟩
          simp only [laws_szByteSS.l0]
          refine Ter.ifp (by omega) (Ter.ifp (by omega) ?_)
          rw [show rd_L1 l (i : Int) = l[i] from getD_at hi, hr]
          exact Ter.ifp (c := r < 0) hr2 (Ter.ret _)
        · obtain ⟨q, hq, hq2⟩ := ih r hr2 (by omega)
          refine ⟨q, Ter.succ ?_, ?_⟩
          · simp only [laws_szByteSS.l0]
            refine Ter.ifp (by omega) (Ter.ifp (by omega) ?_)
            rw [show rd_L1 l (i : Int) = l[i] from getD_at hi, hr]
            refine Ter.ifn (c := r < 0) (by omega) ?_
            rw [w64s hi (by omega)]
            exact hq
          · rcases hq2 with h | ⟨h1, h2, h3⟩
            · exact .inl h
            · refine .inr ⟨h1, by omega, fun j hj hj2 => ?_⟩
              by_cases hij : j = i
              · subst hij; exact hr4
              · exact h3 j (by omega) hj2) 0 (by omega) (a - (l.length : Int)) (by omega) (by omega)
    obtain ⟨r, hr, hr2⟩ := key
    refine ⟨r, hr, ?_⟩
    rcases hr2 with h | ⟨h1, h2, h3⟩
    · exact .inl h
    · refine .inr ⟨h1, by omega, hs, fun z hz => ?_⟩
      obtain ⟨j, hj, rfl⟩ := List.getElem_of_mem hz
      exact h3 j (by omega) hj

theorem szMemory_is {l : List (List Int)} {a : Int} (h0 : 0 ≤ a) (h1 : a ≤ 1048576) (hl : l.length ≤ maxLen ∧ ∀ z ∈ l, z.length ≤ maxLen) : ∃ r, Ter (fun k => laws_szMemory.f k l a) r ∧ (r < 0 ∨ (0 ≤ r ∧ r ≤ a ∧ Small l ∧ ∀ z ∈ l, Small z)) := by
  obtain ⟨r, hr, h⟩ := szByteSS_is h0 h1 hl
  unfold laws_szMemory.f
  rcases h with h | ⟨h2, h3, h4⟩
  · exact ⟨-1, hr.bind (Ter.ifp h (Ter.ret _)), .inl (by omega)⟩
  · exact ⟨r, hr.bind (Ter.ifn (by omega) (Ter.ret _)), .inr ⟨h2, h3, h4⟩⟩

theorem toByteS_is {l : List Int} (h : Small l) : Ter (fun k => laws_toByteS.f k l) l := by
  have hl := h.le
  unfold laws_toByteS.f
  refine Ter.ifp (by omega) (Ter.ifp (by omega) ?_)
  have key := down_ (Q := fun i => Ter (fun k => laws_toByteS.l0 k l (l.take i ++ List.replicate (l.length - i) 0) (i : Int)) l) l.length
    (Ter.succ (by simp only [laws_toByteS.l0]; exact Ter.ifn (by omega) ((Ter.ret _).eq fill_all)))
    (fun i hi ih => by
      refine Ter.succ ?_
      simp only [laws_toByteS.l0]
      refine Ter.ifp (by omega) (Ter.ifp (by omega) (Ter.ifp (by rw [fill_len (by omega)]; omega) ?_))
      rw [rd_at hi, w64s hi (by omega), fill_set hi]
      exact ih) 0 (by omega)
  simpa using key

theorem toByteSS_is {l : List (List Int)} (h : Small l) (hz : ∀ z ∈ l, Small z) : Ter (fun k => laws_toByteSS.f k l) l := by
  have hl := h.le
  unfold laws_toByteSS.f
  refine Ter.ifp (by omega) (Ter.ifp (by omega) ?_)
  have key := down_ (Q := fun i => Ter (fun k => laws_toByteSS.l0 k l (l.take i ++ List.replicate (l.length - i) []) (i : Int)) l) l.length
    (Ter.succ (by simp only [laws_toByteSS.l0]; exact Ter.ifn (by omega) ((Ter.ret _).eq fill_all)))
    (fun i hi ih => by
      refine Ter.succ ?_
      simp only [laws_toByteSS.l0]
      refine Ter.ifp (by omega) (Ter.ifp (by omega) ?_)
      rw [show rd_L1 l (i : Int) = l[i] from getD_at hi]
      refine (toByteS_is (hz _ (List.getElem_mem hi))).bind (Ter.ifp (by rw [fill_len (by omega)]; omega) ?_)
      rw [w64s hi (by omega), fill_set hi]
      exact ih) 0 (by omega)
  simpa using key

theorem toMemory_is {l : List (List Int)} (h : Small l) (hz : ∀ z ∈ l, Small z) : Ter (fun k => laws_toMemory.f k l) l := (toByteSS_is h hz).bind (Ter.ret _)

theorem eqByteS_is {l : List Int} (h : l.length ≤ maxLen) : Ter (fun k => laws_eqByteS.f k l l) true := by
  rw [maxLen_] at h
  unfold laws_eqByteS.f
  refine Ter.ifp rfl ?_
  exact down_ (Q := fun i => Ter (fun k => laws_eqByteS.l0 k l l (i : Int)) true) l.length
    (Ter.succ (by simp only [laws_eqByteS.l0]; exact Ter.ifn (by omega) (Ter.ret _)))
    (fun i hi ih => by
      refine Ter.succ ?_
      simp only [laws_eqByteS.l0, if_true]
      refine Ter.ifp (by omega) (Ter.ifp (by omega) (Ter.ifp (by omega) ?_))
      rw [w64s hi (by omega)]
      exact ih) 0 (by omega)

theorem eqByteSS_is {l : List (List Int)} (h : l.length ≤ maxLen ∧ ∀ z ∈ l, z.length ≤ maxLen) : Ter (fun k => laws_eqByteSS.f k l l) true := by
  have h1 := h.1
  rw [maxLen_] at h1
  unfold laws_eqByteSS.f
  refine Ter.ifp rfl ?_
  exact down_ (Q := fun i => Ter (fun k => laws_eqByteSS.l0 k l l (i : Int)) true) l.length
    (Ter.succ (by simp only [laws_eqByteSS.l0]; exact Ter.ifn (by omega) (Ter.ret _)))
    (fun i hi ih => by
      refine Ter.succ ?_
      simp only [laws_eqByteSS.l0]
      refine Ter.ifp (by omega) (Ter.ifp (by omega) (Ter.ifp (by omega) ?_))
      rw [show rd_L1 l (i : Int) = l[i] from getD_at hi]
      refine (eqByteS_is (h.2 _ (List.getElem_mem hi))).bind (Ter.ifp rfl ?_)
      rw [w64s hi (by omega)]
      exact ih) 0 (by omega)

theorem eqMemory_is {l : List (List Int)} (h : l.length ≤ maxLen ∧ ∀ z ∈ l, z.length ≤ maxLen) : Ter (fun k => laws_eqMemory.f k l l) true := (eqByteSS_is h).bind (Ter.ifp rfl (Ter.ret _))
end Go.Proofs.YtaceoijcjkbgfaaDoor.P
namespace Go.Proofs.YtaceoijcjkbgfaaDoor.P
open Go.RowKit Go.Proofs.YtaceoijcjkbgfaaDoorW.PrintWords Go.Proofs.YtaceoijcjkbgfaaDoorW.PrintLast Go.Proofs.YtaceoijcjkbgfaaDoorW.PrintMore
set_option linter.unusedVariables false

theorem szWindowS_is {l : List S130} {a : Int} (h0 : 0 ≤ a) (h1 : a ≤ 1048576) (hl : l.length ≤ maxLen) : ∃ r, laws_szWindowS.f l a = some r ∧ (r < 0 ∨ (0 ≤ r ∧ r ≤ a ∧ Small l)) := by
  rw [maxLen_] at hl
  unfold laws_szWindowS.f Small
  rw [w64 (by omega) (by omega)]
  by_cases h : a - (l.length : Int) < 0
  · rw [if_pos h]; exact ⟨_, rfl, .inl (by omega)⟩
  · rw [if_neg h]; exact ⟨_, rfl, .inr (by omega)⟩

/-- A window of the laws as one of the program. -/
def winOf (x : S130) : S126 := ⟨x.f0, x.f1, x.f2, x.f3⟩

def wf64 (n : Int) : Prop := -9223372036854775808 ≤ n ∧ n ≤ 9223372036854775807

theorem wf64_of {n : Int} (h : (Lit.int .i64 n).wf = true) : wf64 n := by
  simp only [Lit.wf, Bool.and_eq_true, decide_eq_true_eq] at h
  exact h

def wfW (x : S126) : Prop := wf64 x.f0 ∧ wf64 x.f1 ∧ wf64 x.f2 ∧ wf64 x.f3

theorem wfW_of {x : S130} (h : wf130 x) : wfW (winOf x) := ⟨wf64_of h.1, wf64_of h.2.1, wf64_of h.2.2.1, wf64_of h.2.2.2⟩

theorem toWindowS_is {l : List S130} (h : Small l) : Ter (fun k => laws_toWindowS.f k l) (l.map winOf) := by
  have hl := h.le
  unfold laws_toWindowS.f
  refine Ter.ifp (by omega) (Ter.ifp (by omega) ?_)
  have hm : (l.map winOf).length = l.length := by simp
  have key := down_ (Q := fun i => Ter (fun k => laws_toWindowS.l0 k l ((l.map winOf).take i ++ List.replicate ((l.map winOf).length - i) z126) (i : Int)) (l.map winOf)) (l.map winOf).length
    (Ter.succ (by simp only [laws_toWindowS.l0]; exact Ter.ifn (by omega) ((Ter.ret _).eq fill_all)))
    (fun i hi ih => by
      refine Ter.succ ?_
      simp only [laws_toWindowS.l0]
      have hi' : i < l.length := by omega
      refine Ter.ifp (by omega) (Ter.ifp (by omega) ?_)
      rw [show rd_T130 l (i : Int) = l[i] from getD_at hi']
      refine Ter.bind (F := fun _ => laws_toWindow.f _ _ _ _) (Ter.ret _) (Ter.ifp (by rw [fill_len (by omega)]; omega) ?_)
      rw [w64s hi (by omega)]
      have e := fill_set (z := z126) hi
      rw [show (l.map winOf)[i] = winOf l[i] by simp] at e
      show Ter (fun k => laws_toWindowS.l0 k l (List.set _ _ (winOf l[i])) _) _
      rw [e]
      exact ih) 0 (by omega)
  simpa using key

theorem eqWindow_is (a b c d : Int) : laws_eqWindow.f a b c d a b c d = some true := by simp [laws_eqWindow.f]

theorem eqWindowS_is {l : List S126} (h : l.length ≤ maxLen) : Ter (fun k => laws_eqWindowS.f k l l) true := by
  rw [maxLen_] at h
  unfold laws_eqWindowS.f
  refine Ter.ifp rfl ?_
  exact down_ (Q := fun i => Ter (fun k => laws_eqWindowS.l0 k l l (i : Int)) true) l.length
    (Ter.succ (by simp only [laws_eqWindowS.l0]; exact Ter.ifn (by omega) (Ter.ret _)))
    (fun i hi ih => by
      refine Ter.succ ?_
      simp only [laws_eqWindowS.l0]
      refine Ter.ifp (by omega) (Ter.ifp (by omega) (Ter.ifp (by omega) ?_))
      refine Ter.bind (F := fun _ => laws_eqWindow.f _ _ _ _ _ _ _ _) (Ter.const (eqWindow_is _ _ _ _)) (Ter.ifp rfl ?_)
      rw [w64s hi (by omega)]
      exact ih) 0 (by omega)
end Go.Proofs.YtaceoijcjkbgfaaDoor.P
namespace Go.Proofs.YtaceoijcjkbgfaaDoor.P
open Go.RowKit Go.Proofs.YtaceoijcjkbgfaaDoorW.PrintWords Go.Proofs.YtaceoijcjkbgfaaDoorW.PrintLast Go.Proofs.YtaceoijcjkbgfaaDoorW.PrintMore
set_option linter.unusedVariables false

theorem in_is (a b c : Int) : spec_l1In.f a b c = some (decide (b ≤ a ∧ a ≤ c)) := by
  unfold spec_l1In.f
  by_cases h : a ≥ b
  · rw [if_pos h]; congr 1; simp only [decide_eq_decide]; omega
  · rw [if_neg h]; congr 1; symm; simp only [decide_eq_false_iff_not]; omega

theorem within_is (a b c : Int) : impl_within.f a b c = some (decide (b ≤ a ∧ a ≤ c)) := by
  unfold impl_within.f
  by_cases h : a ≥ b
  · rw [if_pos h]; congr 1; simp only [decide_eq_decide]; omega
  · rw [if_neg h]; congr 1; symm; simp only [decide_eq_false_iff_not]; omega

/-- A valid memory. -/
def IsMem (m : List (List Int)) : Prop := m.length ≤ 16 ∧ ∀ z ∈ m, 1 ≤ z.length ∧ z.length ≤ 64

instance (m : List (List Int)) : Decidable (IsMem m) := by unfold IsMem; infer_instance

theorem IsMem.at {m : List (List Int)} (h : IsMem m) {i : Nat} (hi : i < m.length) : 1 ≤ m[i].length ∧ m[i].length ≤ 64 := h.2 _ (List.getElem_mem hi)

theorem l2Memory_is {m : List (List Int)} (h : m.length ≤ maxLen) : Ter (fun k => spec_l2Memory.f k m) (decide (IsMem m)) := by
  rw [maxLen_] at h
  unfold spec_l2Memory.f
  have key := down_ (Q := fun i => (∀ j, j < i → ∀ hj : j < m.length, 1 ≤ m[j].length ∧ m[j].length ≤ 64) → Ter (fun k => spec_l2Memory.l0 k (i : Int) m) (decide (IsMem m))) m.length
    (fun ok => by
      refine Ter.succ ?_
      simp only [spec_l2Memory.l0]
      refine Ter.ifn (by omega) (Ter.succ ?_)
      simp only [spec_l2Memory.j1]
      refine Ter.ifn (by simp) ((Ter.ret _).eq ?_)
      simp only [decide_eq_decide]
      constructor
      · intro h1
        refine ⟨by omega, fun z hz => ?_⟩
        obtain ⟨j, hj, rfl⟩ := List.getElem_of_mem hz
        exact ok j hj hj
      · intro h1; have := h1.1; omega)
    (fun i hi ih ok => by
      refine Ter.succ ?_
      simp only [spec_l2Memory.l0]
      refine Ter.ifp (by omega) (Ter.succ ?_)
      simp only [spec_l2Memory.j1]
      by_cases h16 : (i : Int) ≤ 16
      · refine Ter.ifp (by simpa using h16) (Ter.ifp (by omega) (Ter.ifp (by omega) ?_))
        rw [show rd_L1 m (i : Int) = m[i] from getD_at hi, in_is]
        by_cases hl : 1 ≤ (m[i].length : Int) ∧ (m[i].length : Int) ≤ 64
        · refine Ter.ifp (c := decide _ = true) (by simpa using hl) ?_
          rw [w64s hi (by omega)]
          exact ih (fun j hj hj2 => by
            by_cases hji : j = i
            · subst hji; omega
            · exact ok j (by omega) hj2)
        · refine Ter.ifn (c := decide _ = true) (by simpa using hl) ((Ter.ret _).eq ?_)
          symm
          simp only [decide_eq_false_iff_not]
          intro h1
          have := h1.at hi
          omega
      · refine Ter.ifn (by simpa using h16) ((Ter.ret _).eq ?_)
        simp only [decide_eq_decide]
        constructor
        · intro h1; omega
        · intro h1; have := h1.1; omega) 0 (by omega)
  exact key (fun j hj => by omega)

theorem isMemory_is {m : List (List Int)} (h : m.length ≤ maxLen) : Ter (fun k => impl_IsMemory.f k m) (decide (IsMem m)) := by
  rw [maxLen_] at h
  unfold impl_IsMemory.f
  have key := down_ (Q := fun i => (∀ j, j < i → ∀ hj : j < m.length, 1 ≤ m[j].length ∧ m[j].length ≤ 64) → Ter (fun k => impl_IsMemory.l0 k m (m.length : Int) (i : Int) m) (decide (IsMem m))) m.length
    (fun ok => by
      refine Ter.succ ?_
      simp only [impl_IsMemory.l0]
      refine Ter.ifn (by omega) ((Ter.ret _).eq ?_)
      simp only [decide_eq_decide]
      constructor
      · intro h1
        refine ⟨by omega, fun z hz => ?_⟩
        obtain ⟨j, hj, rfl⟩ := List.getElem_of_mem hz
        exact ok j hj hj
      · intro h1; have := h1.1; omega)
    (fun i hi ih ok => by
      refine Ter.succ ?_
      simp only [impl_IsMemory.l0]
      refine Ter.ifp (by omega) (Ter.ifp (by omega) (Ter.ifp (by omega) ?_))
      rw [show rd_L1 m (i : Int) = m[i] from getD_at hi, within_is]
      by_cases hl : 1 ≤ (m[i].length : Int) ∧ (m[i].length : Int) ≤ 64
      · refine Ter.ifp (c := decide _ = true) (by simpa using hl) ?_
        rw [w64s hi (by omega)]
        exact ih (fun j hj hj2 => by
          by_cases hji : j = i
          · subst hji; omega
          · exact ok j (by omega) hj2)
      · refine Ter.ifn (c := decide _ = true) (by simpa using hl) ((Ter.ret _).eq ?_)
        symm
        simp only [decide_eq_false_iff_not]
        intro h1
        have := h1.at hi
        omega) 0 (by omega)
  exact key (fun j hj => by omega)

/-- A window of the memory. -/
def OnMem (m : List (List Int)) (a s n c : Int) : Prop := 0 ≤ a ∧ a < m.length ∧ 0 ≤ s ∧ s + c ≤ ((m.getD a.toNat []).length : Int) ∧ 0 ≤ n ∧ n ≤ c

instance (m : List (List Int)) (a s n c : Int) : Decidable (OnMem m a s n c) := by unfold OnMem; infer_instance

theorem OnMem.c0 {m : List (List Int)} {a s n c : Int} (h : OnMem m a s n c) : 0 ≤ c := by obtain ⟨_, _, _, _, _, _⟩ := h; omega

theorem l2Window_is {m : List (List Int)} {a s n c : Int} (h : m.length ≤ maxLen) (hz : ∀ z ∈ m, z.length ≤ maxLen) : Ter (fun k => spec_l2Window.f k m a s n c) (decide (IsMem m ∧ OnMem m a s n c)) := by
  have h' := h
  rw [maxLen_] at h'
  unfold spec_l2Window.f
  refine (l2Memory_is h).bind ?_
  by_cases hm : IsMem m
  · refine Ter.ifp (by simpa using hm) ?_
    rw [in_is, w64 (by omega) (by omega)]
    refine Ter.bind (F := fun _ => some _) (Ter.ret _) (Ter.succ ?_)
    simp only [spec_l2Window.j0]
    by_cases ha : 0 ≤ a ∧ a ≤ (m.length : Int) - 1
    · refine Ter.ifn (by simp [ha]) (Ter.ifp (by omega) (Ter.ifp (by omega) ?_))
      obtain ⟨i, rfl⟩ : ∃ i : Nat, a = (i : Int) := ⟨a.toNat, by omega⟩
      have hi : i < m.length := by omega
      rw [show rd_L1 m (i : Int) = m[i] from getD_at hi]
      simp only [in_is, Option.bind_some]
      have hl := hm.at hi
      by_cases h1 : 0 ≤ s ∧ s ≤ (m[i].length : Int)
      · rw [w64 (by omega) (by omega)]
        refine Ter.ifp (by simpa using h1) ?_
        by_cases h2 : 0 ≤ c ∧ c ≤ (m[i].length : Int) - s
        · refine Ter.ifp (by simpa using h2) ((Ter.ret _).eq ?_)
          simp only [decide_eq_decide]
          unfold OnMem
          rw [getD_at hi]
          constructor
          · intro h3; exact ⟨hm, by omega⟩
          · intro h3; obtain ⟨_, h4⟩ := h3; omega
        · refine Ter.ifn (by simpa using h2) ((Ter.ret _).eq ?_)
          symm
          simp only [decide_eq_false_iff_not]
          unfold OnMem
          rw [getD_at hi]
          rintro ⟨_, h4⟩; omega
      · refine Ter.ifn (by simpa using h1) ((Ter.ret _).eq ?_)
        symm
        simp only [decide_eq_false_iff_not]
        unfold OnMem
        rw [getD_at hi]
        rintro ⟨_, h4⟩; omega
    · refine Ter.ifp (by simp only [Bool.not_eq_true', decide_eq_false_iff_not]; omega) ((Ter.ret _).eq ?_)
      symm
      simp only [decide_eq_false_iff_not]
      unfold OnMem
      rintro ⟨_, h4⟩; omega
  · refine Ter.ifn (by simpa using hm) (Ter.succ ?_)
    simp only [spec_l2Window.j0]
    simp only [if_true]
    refine (Ter.ret _).eq ?_
    symm
    simp only [decide_eq_false_iff_not]
    exact fun h1 => hm h1.1

theorem hasWindow_is {m : List (List Int)} {a s n c : Int} (hm : IsMem m) (hs : wf64 s) (hc : wf64 c) : impl_Memory_hasWindow.f m a s n c = some (decide (OnMem m a s n c)) := by
  have hml := hm.1
  unfold impl_Memory_hasWindow.f impl_Memory_hasArray.f
  simp only [within_is, Option.bind_some, decide_eq_true_eq]
  rw [w64 (n := (m.length : Int) - 1) (by omega) (by omega)]
  by_cases ha : 0 ≤ a ∧ a ≤ (m.length : Int) - 1
  · rw [if_pos ha]
    obtain ⟨i, rfl⟩ : ∃ i : Nat, a = (i : Int) := ⟨a.toNat, by omega⟩
    have hi : i < m.length := by omega
    have hl := hm.at hi
    rw [show rd_L1 m (i : Int) = m[i] from getD_at hi]
    by_cases h1 : 0 ≤ c ∧ c ≤ 64
    · rw [if_pos h1]
      by_cases h2 : 0 ≤ n ∧ n ≤ c
      · rw [if_pos h2, if_pos (by omega), if_pos (by omega), w64 (by omega) (by omega)]
        congr 1
        simp only [decide_eq_decide]
        unfold OnMem
        rw [getD_at hi]
        omega
      · rw [if_neg h2]
        congr 1
        symm
        simp only [decide_eq_false_iff_not]
        unfold OnMem
        rw [getD_at hi]
        omega
    · rw [if_neg h1]
      congr 1
      symm
      simp only [decide_eq_false_iff_not]
      unfold OnMem
      rw [getD_at hi]
      omega
  · rw [if_neg ha]
    congr 1
    symm
    simp only [decide_eq_false_iff_not]
    unfold OnMem
    omega
end Go.Proofs.YtaceoijcjkbgfaaDoor.P
namespace Go.Proofs.YtaceoijcjkbgfaaDoor.P
open Go.RowKit Go.Proofs.YtaceoijcjkbgfaaDoorW.PrintWords Go.Proofs.YtaceoijcjkbgfaaDoorW.PrintLast Go.Proofs.YtaceoijcjkbgfaaDoorW.PrintMore
set_option linter.unusedVariables false

def OnW (m : List (List Int)) (w : S126) : Prop := OnMem m w.f0 w.f1 w.f2 w.f3

instance (m : List (List Int)) (w : S126) : Decidable (OnW m w) := by unfold OnW; infer_instance

def AreOn (m : List (List Int)) (ws : List S126) : Prop := IsMem m ∧ ∀ w ∈ ws, OnW m w

instance (m : List (List Int)) (ws : List S126) : Decidable (AreOn m ws) := by unfold AreOn; infer_instance

theorem l3Watched_is {m : List (List Int)} {ws : List S126} (h : m.length ≤ maxLen) (hz : ∀ z ∈ m, z.length ≤ maxLen) (hw : ws.length ≤ maxLen) : Ter (fun k => spec_l3Watched.f k m ws) (decide (AreOn m ws ∧ ws.length ≤ 12)) := by
  have hw' := hw
  rw [maxLen_] at hw'
  unfold spec_l3Watched.f
  have key := down_ (Q := fun i => (∀ j, j < i → ∀ hj : j < ws.length, OnW m ws[j]) → Ter (fun k => spec_l3Watched.l0 k ws (i : Int) m) (decide (AreOn m ws ∧ ws.length ≤ 12))) ws.length
    (fun ok => by
      refine Ter.succ ?_
      simp only [spec_l3Watched.l0]
      refine Ter.ifn (by omega) (Ter.succ ?_)
      simp only [spec_l3Watched.j1]
      refine Ter.ifn (by simp) ((l2Memory_is h).bind ?_)
      by_cases hm : IsMem m
      · refine Ter.ifp (by simpa using hm) ((Ter.ret _).eq ?_)
        simp only [decide_eq_decide]
        constructor
        · intro h1
          refine ⟨⟨hm, fun w hw => ?_⟩, by omega⟩
          obtain ⟨j, hj, rfl⟩ := List.getElem_of_mem hw
          exact ok j hj hj
        · intro h1; omega
      · refine Ter.ifn (by simpa using hm) ((Ter.ret _).eq ?_)
        symm
        simp only [decide_eq_false_iff_not]
        exact fun h1 => hm h1.1.1)
    (fun i hi ih ok => by
      refine Ter.succ ?_
      simp only [spec_l3Watched.l0]
      refine Ter.ifp (by omega) (Ter.succ ?_)
      simp only [spec_l3Watched.j1]
      by_cases h16 : (i : Int) ≤ 12
      · refine Ter.ifp (by simpa using h16) (Ter.ifp (by omega) (Ter.ifp (by omega) ?_))
        rw [show rd_T126 ws (i : Int) = ws[i] from getD_at hi]
        refine (l2Window_is h hz).bind ?_
        by_cases hl : IsMem m ∧ OnW m ws[i]
        · refine Ter.ifp (c := decide _ = true) (by simpa [OnW] using hl) ?_
          rw [w64s hi (by omega)]
          exact ih (fun j hj hj2 => by
            by_cases hji : j = i
            · subst hji; exact hl.2
            · exact ok j (by omega) hj2)
        · refine Ter.ifn (c := decide _ = true) (by simpa [OnW] using hl) ((Ter.ret _).eq ?_)
          symm
          simp only [decide_eq_false_iff_not]
          exact fun h1 => hl ⟨h1.1.1, h1.1.2 _ (List.getElem_mem hi)⟩
      · refine Ter.ifn (by simpa using h16) ((l2Memory_is h).bind ?_)
        have hf : decide (AreOn m ws ∧ ws.length ≤ 12) = false := by
          simp only [decide_eq_false_iff_not]
          intro h1; have := h1.2; omega
        rw [hf]
        by_cases hm : IsMem m
        · refine Ter.ifp (by simpa using hm) ((Ter.ret _).eq ?_)
          simp only [decide_eq_false_iff_not]
          omega
        · exact Ter.ifn (by simpa using hm) (Ter.ret _)) 0 (by omega)
  exact key (fun j hj => by omega)

theorem areOn_is {m : List (List Int)} {ws : List S126} (h : m.length ≤ maxLen) (hw : ∀ w ∈ ws, wfW w) : Ter (fun k => impl_areOn.f k m ws) (decide (AreOn m ws)) := by
  unfold impl_areOn.f
  refine (isMemory_is h).bind ((Ter.ret _).eq ?_)
  by_cases hm : IsMem m
  · simp only [hm, decide_true, Bool.true_and]
    rw [Bool.eq_iff_iff]
    simp only [List.all_eq_true, decide_eq_true_eq]
    constructor
    · intro h1
      refine ⟨hm, fun w hw1 => ?_⟩
      have := h1 w hw1
      unfold hasW at this
      rw [hasWindow_is hm (hw w hw1).2.1 (hw w hw1).2.2.2] at this
      simpa [OnW] using this
    · intro h1 w hw1
      unfold hasW
      rw [hasWindow_is hm (hw w hw1).2.1 (hw w hw1).2.2.2]
      simpa [OnW] using h1.2 w hw1
  · simp only [hm, decide_false, Bool.false_and]
    symm
    simp only [decide_eq_false_iff_not]
    exact fun h1 => hm h1.1
end Go.Proofs.YtaceoijcjkbgfaaDoor.P
namespace Go.Proofs.YtaceoijcjkbgfaaDoor.P
set_option linter.unusedVariables false
set_option linter.unusedSimpArgs false

abbrev Bs := List UInt8

/-- What stands ahead of the first b, and behind it. -/
def ahead (b : UInt8) (s : Bs) : Bs := s.takeWhile (· != b)

def behind (b : UInt8) (s : Bs) : Bs := (s.dropWhile (· != b)).drop 1

theorem ahead_app {b : UInt8} : ∀ {a : Bs} (r : Bs), b ∉ a → ahead b (a ++ b :: r) = a
  | [], r, _ => by simp [ahead]
  | x :: a, r, h => by
    have h1 : x ≠ b := fun e => h (by simp [e])
    have h2 : b ∉ a := fun e => h (by simp [e])
    have := ahead_app r h2
    unfold ahead at this ⊢
    rw [List.cons_append, List.takeWhile_cons, if_pos (by simpa using h1), this]

theorem ahead_none {b : UInt8} : ∀ {a : Bs}, b ∉ a → ahead b a = a
  | [], _ => rfl
  | x :: a, h => by
    have h1 : x ≠ b := fun e => h (by simp [e])
    have h2 : b ∉ a := fun e => h (by simp [e])
    have := ahead_none h2
    unfold ahead at this ⊢
    rw [List.takeWhile_cons, if_pos (by simpa using h1), this]

theorem not_ahead {b : UInt8} : ∀ (s : Bs), b ∉ ahead b s
  | [] => by simp [ahead]
  | x :: s => by
    have := not_ahead (b := b) s
    unfold ahead at this ⊢
    rw [List.takeWhile_cons]
    by_cases h : x = b
    · rw [if_neg (by simp [h])]; simp
    · rw [if_pos (by simpa using h)]
      simp only [List.mem_cons, not_or]
      exact ⟨fun e => h e.symm, this⟩

theorem split_at {b : UInt8} : ∀ {s : Bs}, b ∈ s → s = ahead b s ++ b :: behind b s
  | [], h => by simp at h
  | x :: s, h => by
    by_cases e : x = b
    · subst e; simp [ahead, behind]
    · have := split_at (b := b) (s := s) (by rcases List.mem_cons.1 h with h | h; exact absurd h.symm e; exact h)
      unfold ahead behind at this ⊢
      rw [List.takeWhile_cons, List.dropWhile_cons, if_pos (by simpa using e), if_pos (by simpa using e), List.cons_append, ← this]

theorem index_one {b : UInt8} : ∀ {a : Bs} (r : Bs), b ∉ a → Lib.index (a ++ b :: r) [b] = a.length
  | [], r, _ => by simp [Lib.index]
  | x :: a, r, h => by
    have h1 : b ≠ x := fun e => h (by simp [e])
    have := index_one r (fun e => h (by simp [e]) : b ∉ a)
    rw [List.cons_append, Lib.index, if_neg (by simpa using h1), this, if_neg (by rw [beq_iff_eq]; omega)]
    rfl

theorem index_not {b : UInt8} : ∀ {a : Bs}, b ∉ a → Lib.index a [b] = -1
  | [], _ => rfl
  | x :: a, h => by
    have h1 : b ≠ x := fun e => h (by simp [e])
    rw [Lib.index, if_neg (by simpa using h1), index_not (fun e => h (by simp [e]) : b ∉ a)]
    rfl

theorem cut_app {b : UInt8} {a : Bs} (r : Bs) (h : b ∉ a) : Lib.cut (a ++ b :: r) [b] = (a, r, true) := by
  unfold Lib.cut
  rw [index_one r h, if_pos (by omega)]
  simp

theorem cut_not {b : UInt8} {a : Bs} (h : b ∉ a) : Lib.cut a [b] = (a, [], false) := by
  unfold Lib.cut
  rw [index_not h]
  rfl

theorem decDigits_digit (n : Nat) : ∀ x ∈ Lib.decDigits n, 48 ≤ x.toNat ∧ x.toNat ≤ 57 := by
  induction n using Nat.strongRecOn with
  | _ n ih =>
    intro x hx
    rw [Lib.decDigits] at hx
    have key : ∀ m : Nat, m < 10 → 48 ≤ (UInt8.ofNat (48 + m)).toNat ∧ (UInt8.ofNat (48 + m)).toNat ≤ 57 := by
      intro m hm
      rw [UInt8.toNat_ofNat']
      omega
    split at hx
    · simp only [List.mem_singleton] at hx
      subst hx
      exact key n (by assumption)
    · rw [List.mem_append] at hx
      rcases hx with hx | hx
      · exact ih (n / 10) (by omega) x hx
      · simp only [List.mem_singleton] at hx
        subst hx
        exact key _ (by omega)

theorem itoa_digit {n : Int} (h : 0 ≤ n) : ∀ x ∈ Lib.itoa n, 48 ≤ x.toNat ∧ x.toNat ≤ 57 := by
  unfold Lib.itoa
  rw [if_neg (by omega)]
  exact decDigits_digit _

theorem decDigits_len : ∀ (j n : Nat), n < 10 ^ (j + 1) → (Lib.decDigits n).length ≤ j + 1
  | 0, n, h => by rw [Lib.decDigits, dif_pos (by simpa using h)]; simp
  | j + 1, n, h => by
    rw [Lib.decDigits]
    split
    · simp
    · have := decDigits_len j (n / 10) (by rw [Nat.pow_succ] at h; omega)
      simp
      exact this

theorem itoa_len {n : Int} (h : 0 ≤ n) (j : Nat) (h2 : n < (10 ^ (j + 1) : Nat)) : (Lib.itoa n).length ≤ j + 1 := by
  unfold Lib.itoa
  rw [if_neg (by omega)]
  exact decDigits_len j _ (by omega)

theorem not_digit {n : Int} (h : 0 ≤ n) (b : UInt8) (hb : b.toNat < 48 ∨ 57 < b.toNat) : b ∉ Lib.itoa n := fun hm => by
  have := itoa_digit h b hm
  omega

def plainB (m : Nat) (s : Bs) : Bool := s.all (fun x => decide (32 ≤ x.toNat) && decide (x.toNat ≤ 126) && x != 35) && decide (s.length ≤ m)

def okRec (c r : Bs) : Bool := !c.isEmpty && plainB 160 c && !c.contains 64 && plainB 260 r

def sumL : Int → Bs → Int
  | h, [] => h
  | h, x :: l => sumL ((41 * h + (x.toNat : Int) + 1) % 999979) l

theorem sumL_range : ∀ (s : Bs) (h : Int), 0 ≤ h → h < 999979 → 0 ≤ sumL h s ∧ sumL h s < 999979
  | [], h, h0, h1 => ⟨h0, h1⟩
  | x :: l, h, h0, h1 => by
    unfold sumL
    exact sumL_range l _ (by omega) (by omega)

def sealB (s : Bs) : Bs := s ++ 35 :: Lib.itoa (sumL 7 s)

def bodyB (k : Int) (c r : Bs) : Bs := Lib.itoa k ++ 32 :: (c ++ 64 :: r)

def lineB (k : Int) (c r : Bs) : Bs := sealB (bodyB k c r) ++ [10]

theorem plainB_mem {m : Nat} {s : Bs} (h : plainB m s = true) : ∀ x ∈ s, 32 ≤ x.toNat ∧ x.toNat ≤ 126 ∧ x ≠ 35 := by
  intro x hx
  unfold plainB at h
  simp only [Bool.and_eq_true, List.all_eq_true, decide_eq_true_eq, bne_iff_ne, ne_eq] at h
  exact ⟨(h.1 x hx).1.1, (h.1 x hx).1.2, (h.1 x hx).2⟩

theorem plainB_len {m : Nat} {s : Bs} (h : plainB m s = true) : s.length ≤ m := by
  unfold plainB at h
  simp only [Bool.and_eq_true, decide_eq_true_eq] at h
  exact h.2

structure Ok (c r : Bs) : Prop where
  ne : c ≠ []
  c1 : ∀ x ∈ c, 32 ≤ x.toNat ∧ x.toNat ≤ 126 ∧ x ≠ 35
  r1 : ∀ x ∈ r, 32 ≤ x.toNat ∧ x.toNat ≤ 126 ∧ x ≠ 35
  cl : c.length ≤ 160
  rl : r.length ≤ 260
  at_ : (64 : UInt8) ∉ c

theorem okRec_ok {c r : Bs} (h : okRec c r = true) : Ok c r := by
  unfold okRec at h
  simp only [Bool.and_eq_true, Bool.not_eq_true', List.isEmpty_eq_false_iff, List.contains_eq_mem, decide_eq_false_iff_not] at h
  exact ⟨h.1.1.1, plainB_mem h.1.1.2, plainB_mem h.2, plainB_len h.1.1.2, plainB_len h.2, h.1.2⟩

theorem body_hash {k : Int} (hk : 0 ≤ k) {c r : Bs} (h : Ok c r) : (35 : UInt8) ∉ bodyB k c r := by
  unfold bodyB
  simp only [List.mem_append, List.mem_cons, not_or]
  exact ⟨not_digit hk _ (by decide), by decide, fun e => (h.c1 _ e).2.2 rfl, by decide, fun e => (h.r1 _ e).2.2 rfl⟩

theorem body_nl {k : Int} (hk : 0 ≤ k) {c r : Bs} (h : Ok c r) : (10 : UInt8) ∉ bodyB k c r := by
  unfold bodyB
  simp only [List.mem_append, List.mem_cons, not_or]
  exact ⟨not_digit hk _ (by decide), by decide, fun e => by have := (h.c1 _ e).1; revert this; decide, by decide, fun e => by have := (h.r1 _ e).1; revert this; decide⟩

theorem seal_nl {s : Bs} (h : (10 : UInt8) ∉ s) : (10 : UInt8) ∉ sealB s := by
  unfold sealB
  simp only [List.mem_append, List.mem_cons, not_or]
  exact ⟨h, by decide, not_digit (sumL_range s 7 (by omega) (by omega)).1 _ (by decide)⟩

theorem body_len {k : Int} (hk : 0 ≤ k) (hk2 : k < 100) {c r : Bs} (h : Ok c r) : (bodyB k c r).length ≤ 424 := by
  have h1 := itoa_len hk 1 (by omega)
  have h2 := h.cl
  have h3 := h.rl
  unfold bodyB
  simp only [List.length_append, List.length_cons]
  omega

theorem seal_len (s : Bs) : (sealB s).length ≤ s.length + 7 := by
  have h1 := itoa_len (sumL_range s 7 (by omega) (by omega)).1 5 (by have := (sumL_range s 7 (by omega) (by omega)).2; omega)
  unfold sealB
  simp only [List.length_append, List.length_cons]
  omega

theorem line_pos (k : Int) (c r : Bs) : 0 < (lineB k c r).length := by unfold lineB; simp

def verB (s : Bs) : Bs := if sealB (Lib.cut s [35]).1 = s ∧ s.length ≤ 4000 then (Lib.cut s [35]).1 else []

def one (k : Int) (t : Bs) : Option (Bs × Bs) :=
  if (Lib.cut t [10]).2.2 = true then
    let x := (Lib.cut (verB (Lib.cut t [10]).1) [32]).2.1
    let c := (Lib.cut x [64]).1
    let r := (Lib.cut x [64]).2.1
    if okRec c r = true ∧ lineB k c r = (Lib.cut t [10]).1 ++ [10] then some (c, r) else none
  else none

theorem cut_prefix {t : Bs} {b : UInt8} (h : (Lib.cut t [b]).2.2 = true) : (Lib.cut t [b]).1 ++ [b] <+: t := by
  by_cases hm : b ∈ t
  · have e := split_at hm
    rw [e, cut_app _ (not_ahead t)]
    exact ⟨behind b t, by simp⟩
  · rw [cut_not hm] at h
    cases h

theorem one_starts {k : Int} {t c r : Bs} (h : one k t = some (c, r)) : okRec c r = true ∧ lineB k c r <+: t := by
  unfold one at h
  simp only [] at h
  split at h
  · rename_i hw
    split at h
    · rename_i hh
      simp only [Option.some.injEq, Prod.mk.injEq] at h
      obtain ⟨rfl, rfl⟩ := h
      exact ⟨hh.1, by rw [hh.2]; exact cut_prefix hw⟩
    · cases h
  · cases h

theorem line_cut {k : Int} (hk : 0 ≤ k) {c r : Bs} (h : Ok c r) (q : Bs) : Lib.cut (lineB k c r ++ q) [10] = (sealB (bodyB k c r), q, true) := by
  unfold lineB
  rw [List.append_assoc]
  exact cut_app q (seal_nl (body_nl hk h))

theorem oneL_of {k : Int} (hk : 0 ≤ k) (hk2 : k < 100) {t c r : Bs} (h : okRec c r = true) (hp : lineB k c r <+: t) : one k t = some (c, r) := by
  have ho := okRec_ok h
  obtain ⟨q, rfl⟩ := hp
  unfold one
  have e1 := line_cut hk ho q
  have e2 : Lib.cut (sealB (bodyB k c r)) [35] = (bodyB k c r, Lib.itoa (sumL 7 (bodyB k c r)), true) := cut_app _ (body_hash hk ho)
  have e3 : verB (sealB (bodyB k c r)) = bodyB k c r := by
    have h1 := seal_len (bodyB k c r)
    have h2 := body_len hk hk2 ho
    unfold verB
    rw [e2, if_pos ⟨rfl, by omega⟩]
  have e4 : Lib.cut (bodyB k c r) [32] = (Lib.itoa k, c ++ 64 :: r, true) := cut_app _ (not_digit hk _ (by decide))
  have e5 : Lib.cut (c ++ 64 :: r) [64] = (c, r, true) := cut_app _ ho.at_
  simp only [e1, e3, e4, e5, if_true]
  rw [if_pos ⟨h, rfl⟩]

def dec (s : Bs) (k : Int) : Option (Bs × Bs) :=
  let hd := Lib.itoa k ++ [32]
  let text := ahead 35 s
  if text.length < hd.length ∨ text.take hd.length ≠ hd then none
  else
    let rest := text.drop hd.length
    let ask := ahead 64 rest
    if ask.length = rest.length then none
    else if okRec ask (rest.drop (ask.length + 1)) = true ∧ lineB k ask (rest.drop (ask.length + 1)) = s ++ [10] then some (ask, rest.drop (ask.length + 1)) else none

def one' (k : Int) (t : Bs) : Option (Bs × Bs) := if 10 ∈ t then dec (ahead 10 t) k else none

theorem one'_starts {k : Int} {t c r : Bs} (h : one' k t = some (c, r)) : okRec c r = true ∧ lineB k c r <+: t := by
  unfold one' at h
  split at h
  · rename_i hm
    unfold dec at h
    simp only [] at h
    split at h
    · cases h
    · split at h
      · cases h
      · split at h
        · rename_i hh
          simp only [Option.some.injEq, Prod.mk.injEq] at h
          obtain ⟨h1, h2⟩ := h
          rw [h2, h1] at hh
          refine ⟨hh.1, ?_⟩
          rw [hh.2]
          exact ⟨behind 10 t, by rw [List.append_assoc]; exact (split_at hm).symm⟩
        · cases h
  · cases h

theorem one'_of {k : Int} (hk : 0 ≤ k) {t c r : Bs} (h : okRec c r = true) (hp : lineB k c r <+: t) : one' k t = some (c, r) := by
  have ho := okRec_ok h
  obtain ⟨q, rfl⟩ := hp
  have hm : (10 : UInt8) ∈ lineB k c r ++ q := by unfold lineB; simp
  have e1 : ahead 10 (lineB k c r ++ q) = sealB (bodyB k c r) := by
    unfold lineB
    rw [List.append_assoc]
    exact ahead_app q (seal_nl (body_nl hk ho))
  have e2 : ahead 35 (sealB (bodyB k c r)) = bodyB k c r := ahead_app _ (body_hash hk ho)
  have e3 : bodyB k c r = (Lib.itoa k ++ [32]) ++ (c ++ 64 :: r) := by unfold bodyB; simp
  have e4 : ahead 64 (c ++ 64 :: r) = c := ahead_app _ ho.at_
  unfold one'
  rw [if_pos hm, e1]
  unfold dec
  simp only [e2]
  rw [if_neg (by rw [e3, List.take_left]; simp)]
  have e5 : (bodyB k c r).drop (Lib.itoa k ++ [32]).length = c ++ 64 :: r := by rw [e3, List.drop_left]
  rw [e5, e4]
  have e6 : (c ++ 64 :: r).drop (c.length + 1) = r := by
    rw [show c ++ 64 :: r = (c ++ [64]) ++ r by simp, show c.length + 1 = (c ++ [64]).length by simp, List.drop_left]
  rw [if_neg (by simp), e6, if_pos ⟨h, rfl⟩]

theorem one'_eq {k : Int} (hk : 0 ≤ k) (hk2 : k < 100) (t : Bs) : one' k t = one k t := by
  apply Option.ext
  rintro ⟨c, r⟩
  constructor
  · intro h; exact oneL_of hk hk2 (one'_starts h).1 (one'_starts h).2
  · intro h; exact one'_of hk (one_starts h).1 (one_starts h).2

def recs : Nat → Int → Bs → List (Bs × Bs)
  | 0, _, _ => []
  | n + 1, k, t => match one k t with
    | none => []
    | some (c, r) => (c, r) :: recs n (k + 1) (t.drop (lineB k c r).length)

def lenR : Int → List (Bs × Bs) → Nat
  | _, [] => 0
  | k, e :: l => (lineB k e.1 e.2).length + lenR (k + 1) l

def endsR : Nat → Int → List (Bs × Bs) → List Nat
  | a, _, [] => [a]
  | a, k, e :: l => a :: endsR (a + (lineB k e.1 e.2).length) (k + 1) l

theorem recs_len : ∀ (n : Nat) (k : Int) (t : Bs), (recs n k t).length ≤ n
  | 0, _, _ => Nat.le_refl _
  | n + 1, k, t => by
    unfold recs
    split
    · simp
    · have := recs_len n
      simp
      exact this _ _

theorem endsR_last : ∀ (l : List (Bs × Bs)) (a : Nat) (k : Int), (endsR a k l)[l.length]? = some (a + lenR k l)
  | [], a, k => by simp [endsR, lenR]
  | e :: l, a, k => by
    have := endsR_last l (a + (lineB k e.1 e.2).length) (k + 1)
    simp only [endsR, lenR, List.length_cons, List.getElem?_cons_succ]
    rw [this, Nat.add_assoc]

theorem endsR_len : ∀ (l : List (Bs × Bs)) (a : Nat) (k : Int), (endsR a k l).length = l.length + 1
  | [], a, k => rfl
  | e :: l, a, k => by simp [endsR, endsR_len l]

theorem endsR_ge : ∀ (l : List (Bs × Bs)) (a : Nat) (k : Int), ∀ x ∈ endsR a k l, a ≤ x
  | [], a, k, x, hx => by simp [endsR] at hx; omega
  | e :: l, a, k, x, hx => by
    simp only [endsR, List.mem_cons] at hx
    rcases hx with rfl | hx
    · exact Nat.le_refl _
    · have := endsR_ge l _ _ x hx
      omega

theorem one_nil {k : Int} (hk : 0 ≤ k) : one k [] = none := by
  cases h : one k [] with
  | none => rfl
  | some p =>
    have h1 := (one_starts (c := p.1) (r := p.2) h).2.length_le
    have h2 := line_pos k p.1 p.2
    simp only [List.length_nil] at h1
    omega

theorem ends_iff : ∀ (n : Nat) (k : Int) (a : Nat) (D P : Bs), 0 ≤ k → k + n ≤ 60 → ((a + D.length) ∈ endsR a k (recs n k (D ++ P)) ↔ lenR k (recs n k D) = D.length)
  | 0, k, a, D, P, hk, hk2 => by simp only [recs, endsR, lenR, List.mem_singleton]; omega
  | n + 1, k, a, D, P, hk, hk2 => by
    have hk3 : k < 100 := by omega
    cases h1 : one k (D ++ P) with
    | none =>
      have h2 : one k D = none := by
        cases h2 : one k D with
        | none => rfl
        | some p =>
          have hs := one_starts (c := p.1) (r := p.2) h2
          rw [oneL_of hk hk3 hs.1 (hs.2.trans (List.prefix_append D P))] at h1
          cases h1
      simp only [recs, h1, h2, endsR, lenR, List.mem_singleton]
      omega
    | some p =>
      obtain ⟨c, r⟩ := p
      have hs := one_starts h1
      have hpos := line_pos k c r
      by_cases hle : (lineB k c r).length ≤ D.length
      · have hp : lineB k c r <+: D := List.prefix_of_prefix_length_le hs.2 (List.prefix_append D P) hle
        have h2 := oneL_of hk hk3 hs.1 hp
        have ih := ends_iff n (k + 1) (a + (lineB k c r).length) (D.drop (lineB k c r).length) P (by omega) (by omega)
        rw [← List.drop_append_of_le_length hle] at ih
        simp only [recs, h1, h2, endsR, lenR, List.mem_cons]
        rw [show a + (lineB k c r).length + (D.drop (lineB k c r).length).length = a + D.length by simp; omega] at ih
        constructor
        · rintro (h | h)
          · omega
          · have := ih.1 h
            simp at this
            omega
        · intro h
          exact .inr (ih.2 (by simp; omega))
      · have h2 : one k D = none := by
          cases h2 : one k D with
          | none => rfl
          | some p =>
            have hs2 := one_starts (c := p.1) (r := p.2) h2
            rw [oneL_of hk hk3 hs2.1 (hs2.2.trans (List.prefix_append D P))] at h1
            obtain ⟨rfl, rfl⟩ := Prod.mk.inj (Option.some.inj h1)
            exact absurd hs2.2.length_le hle
        simp only [recs, h1, h2, endsR, lenR, List.mem_cons]
        constructor
        · rintro (h | h)
          · omega
          · have := endsR_ge _ _ _ _ h
            omega
        · intro h
          exact .inl (by omega)
end Go.Proofs.YtaceoijcjkbgfaaDoor.P
namespace Go.Proofs.YtaceoijcjkbgfaaDoor.P
open Go.RowKit Go.Proofs.YtaceoijcjkbgfaaDoorW.PrintWords Go.Proofs.YtaceoijcjkbgfaaDoorW.PrintLast Go.Proofs.YtaceoijcjkbgfaaDoorW.PrintMore
set_option linter.unusedVariables false
set_option linter.unusedSimpArgs false

/-- A list of bytes as a text. -/
def bs (l : Bs) : ByteArray := ⟨l.toArray⟩

theorem bs_of (s : ByteArray) : s = bs s.data.toList := by
  obtain ⟨⟨l⟩⟩ := s
  rfl

theorem bs_list (l : Bs) : (bs l).data.toList = l := rfl

theorem bs_size (l : Bs) : (bs l).size = l.length := rfl

theorem bs_app (a b : Bs) : bs a ++ bs b = bs (a ++ b) := by
  apply ByteArray.ext
  rw [ByteArray.data_append]
  show a.toArray ++ b.toArray = (a ++ b).toArray
  simp

theorem bs_cut (l : Bs) (i j : Nat) : (bs l).extract i j = bs ((l.take j).drop i) := by
  apply ByteArray.ext
  rw [ByteArray.data_extract]
  show l.toArray.extract i j = ((l.take j).drop i).toArray
  simp [List.extract_eq_drop_take']

theorem bs_from (l : Bs) (i : Nat) : (bs l).extract i l.length = bs (l.drop i) := by rw [bs_cut, List.take_length]

theorem bs_upto (l : Bs) (j : Nat) : (bs l).extract 0 j = bs (l.take j) := by rw [bs_cut]; rfl

theorem toList_loop (s : ByteArray) : ∀ (n i : Nat) (r : Bs), s.size - i = n → ByteArray.toList.loop s i r = r.reverse ++ s.data.toList.drop i
  | 0, i, r, h => by
    rw [ByteArray.toList.loop, if_neg (by omega), List.drop_eq_nil_of_le (by rw [Array.length_toList, ByteArray.size_data]; omega), List.append_nil]
  | n + 1, i, r, h => by
    have hi : i < s.data.toList.length := by rw [Array.length_toList, ByteArray.size_data]; omega
    rw [ByteArray.toList.loop, if_pos (by omega), toList_loop s n (i + 1) _ (by omega), List.reverse_cons, List.append_assoc, List.drop_eq_getElem_cons hi]
    have hi2 : i < s.data.size := by rw [ByteArray.size_data]; omega
    have : s.get! i = s.data.toList[i] := by
      rw [Array.getElem_toList]
      show s.data[i]! = _
      rw [getElem!_pos s.data i hi2]
    rw [this]
    rfl

theorem toList_is (s : ByteArray) : s.toList = s.data.toList := by
  unfold ByteArray.toList
  rw [toList_loop s s.size 0 [] (by omega)]
  rfl

theorem bs_toList (l : Bs) : (bs l).toList = l := by rw [toList_is]; rfl

theorem bs_bt {l : Bs} {i : Nat} (h : i < l.length) : bt (bs l) (i : Int) = (l[i].toNat : Int) := by
  unfold bt
  rw [dif_pos (by rw [Int.toNat_natCast, bs_size]; exact h)]
  rfl

theorem lit0 : (⟨#[]⟩ : ByteArray) = bs [] := rfl

theorem lit1 (b : UInt8) : (⟨#[b]⟩ : ByteArray) = bs [b] := rfl

theorem lit2 (b c : UInt8) : (⟨#[b, c]⟩ : ByteArray) = bs [b, c] := rfl

theorem byte_eq {a b : UInt8} (h : (a.toNat : Int) = (b.toNat : Int)) : a = b := UInt8.toNat_inj.1 (Int.ofNat.inj h)

theorem byte_lt (a : UInt8) : a.toNat < 256 := UInt8.toNat_lt a
end Go.Proofs.YtaceoijcjkbgfaaDoor.P
namespace Go.Proofs.YtaceoijcjkbgfaaDoor.P
open Go.RowKit Go.Proofs.YtaceoijcjkbgfaaDoorW.PrintWords Go.Proofs.YtaceoijcjkbgfaaDoorW.PrintLast Go.Proofs.YtaceoijcjkbgfaaDoorW.PrintMore
set_option linter.unusedVariables false
set_option linter.unusedSimpArgs false

theorem Ter.if_eq {α : Type} {c : Prop} [Decidable c] {F G : Nat → Option α} {r : α} (h1 : c → Ter F r) (h2 : ¬ c → Ter G r) : Ter (fun k => if c then F k else G k) r := by
  by_cases h : c
  · exact Ter.ifp h (h1 h)
  · exact Ter.ifn h (h2 h)

theorem lIn_is (a b c : Int) : spec_l1In.f a b c = some (decide (b ≤ a) && decide (a ≤ c)) := by
  unfold spec_l1In.f
  by_cases h1 : b ≤ a <;> by_cases h2 : a ≤ c <;> simp [h1, h2] <;> omega

theorem lWithin_is (a b c : Int) : impl_within.f a b c = some (decide (b ≤ a) && decide (a ≤ c)) := by
  unfold impl_within.f
  by_cases h1 : b ≤ a <;> by_cases h2 : a ≤ c <;> simp [h1, h2] <;> omega

theorem drop_at {l : Bs} {i : Nat} (h : i < l.length) : l.drop i = l[i] :: l.drop (i + 1) := List.drop_eq_getElem_cons h

theorem tmod_is {a b : Int} (h : 0 ≤ a) : Int.tmod a b = a % b := Int.tmod_eq_emod_of_nonneg h

theorem sum_step {h : Int} {x : UInt8} (h0 : 0 ≤ h) (h1 : h < 999979) : Int.tmod (wrap64 ((wrap64 ((wrap64 (41 * h)) + (wrap64 (x.toNat : Int)))) + 1)) 999979 = (41 * h + (x.toNat : Int) + 1) % 999979 := by
  have hx := byte_lt x
  rw [w64 (n := 41 * h) (by omega) (by omega), w64 (n := (x.toNat : Int)) (by omega) (by omega), w64 (n := 41 * h + (x.toNat : Int)) (by omega) (by omega), w64 (by omega) (by omega), tmod_is (by omega)]

theorem checksum_is {l : Bs} (hl : l.length ≤ 1152921504606846976) : Ter (fun k => impl_checksum.f k (bs l)) (sumL 7 l) := by
  unfold impl_checksum.f
  rw [bs_size]
  have key := down_ (Q := fun i => ∀ h : Int, 0 ≤ h → h < 999979 → Ter (fun k => impl_checksum.l0 k (bs l) h (l.length : Int) (i : Int)) (sumL h (l.drop i))) l.length
    (fun h _ _ => Ter.succ (by simp only [impl_checksum.l0]; refine Ter.ifn (by omega) ((Ter.ret _).eq ?_); rw [List.drop_length]; rfl))
    (fun i hi ih h h0 h1 => by
      refine Ter.succ ?_
      simp only [impl_checksum.l0]
      refine Ter.ifp (by omega) (Ter.ifp (by omega) (Ter.ifp (by rw [bs_size]; omega) ?_))
      rw [bs_bt hi, w64s hi (by omega), sum_step h0 h1, drop_at hi]
      exact ih _ (by omega) (by omega)) 0 (by omega)
  exact key 7 (by omega) (by omega)

theorem l1Sum_is {l : Bs} (hl : l.length ≤ 1152921504606846976) : Ter (fun k => spec_l1Sum.f k (bs l)) (sumL 7 l) := by
  unfold spec_l1Sum.f
  have key := down_ (Q := fun i => ∀ h : Int, 0 ≤ h → h < 999979 → Ter (fun k => spec_l1Sum.l0 k (bs l) h (i : Int)) (sumL h (l.drop i))) l.length
    (fun h _ _ => Ter.succ (by simp only [spec_l1Sum.l0]; refine Ter.ifn (by rw [bs_size]; omega) ((Ter.ret _).eq ?_); rw [List.drop_length]; rfl))
    (fun i hi ih h h0 h1 => by
      refine Ter.succ ?_
      simp only [spec_l1Sum.l0]
      refine Ter.ifp (by rw [bs_size]; omega) (Ter.ifp (by omega) ?_)
      rw [bs_bt hi, w64s hi (by omega), sum_step h0 h1, drop_at hi]
      exact ih _ (by omega) (by omega)) 0 (by omega)
  exact key 7 (by omega) (by omega)

theorem digit_cut : ∀ m : Nat, m < 10 → (⟨#[48, 49, 50, 51, 52, 53, 54, 55, 56, 57]⟩ : ByteArray).extract m (m + 1) = bs [UInt8.ofNat (48 + m)] := by
  intro m hm
  rw [show (⟨#[48, 49, 50, 51, 52, 53, 54, 55, 56, 57]⟩ : ByteArray) = bs [48, 49, 50, 51, 52, 53, 54, 55, 56, 57] from rfl, bs_cut]
  congr 1
  have : ∀ m : Fin 10, (([48, 49, 50, 51, 52, 53, 54, 55, 56, 57] : Bs).take (m.val + 1)).drop m.val = [UInt8.ofNat (48 + m.val)] := by decide
  exact this ⟨m, hm⟩

theorem itoa_small {n : Nat} (h : n < 10) : Lib.itoa (n : Int) = [UInt8.ofNat (48 + n)] := by
  unfold Lib.itoa
  rw [if_neg (by omega), Int.toNat_natCast, Lib.decDigits, dif_pos h]

theorem itoa_big {n : Nat} (h : ¬ n < 10) : Lib.itoa (n : Int) = Lib.itoa ((n / 10 : Nat) : Int) ++ [UInt8.ofNat (48 + n % 10)] := by
  unfold Lib.itoa
  rw [if_neg (by omega), if_neg (by omega), Int.toNat_natCast, Int.toNat_natCast, Lib.decDigits, dif_neg h]

theorem l1Num_is (n : Nat) (hn : n ≤ 1152921504606846976) : Ter (fun k => spec_l1Num.f k (n : Int)) (bs (Lib.itoa (n : Int))) := by
  induction n using Nat.strongRecOn with
  | _ n ih =>
    refine Ter.succ ?_
    simp only [spec_l1Num.f]
    refine Ter.ifn (by omega) ?_
    by_cases h : n < 10
    · refine Ter.ifp (by omega) ?_
      rw [w64s (n := 10) h (by omega)]
      refine Ter.ifp (by omega) (Ter.ifp (by omega) (Ter.ifp (by omega) ((Ter.ret _).eq ?_)))
      rw [Int.toNat_natCast, Int.toNat_natCast, digit_cut n h, itoa_small h]
    · refine Ter.ifn (by omega) ?_
      have e1 : wrap64 (Int.tdiv (n : Int) 10) = ((n / 10 : Nat) : Int) := by
        rw [Int.tdiv_eq_ediv_of_nonneg (by omega), w64 (by omega) (by omega)]
        omega
      have e2 : Int.tmod (n : Int) 10 = ((n % 10 : Nat) : Int) := by
        rw [tmod_is (by omega)]
        omega
      rw [e1, e2, w64s (n := 10) (show n % 10 < 10 by omega) (by omega)]
      refine (ih (n / 10) (by omega) (by omega)).bind ?_
      refine Ter.ifp (by omega) (Ter.ifp (by omega) (Ter.ifp (by omega) ?_))
      rw [Int.toNat_natCast, Int.toNat_natCast, digit_cut _ (by omega)]
      have hlen := itoa_len (n := ((n / 10 : Nat) : Int)) (by omega) 18 (by omega)
      refine Ter.ifp (by rw [bs_size, bs_size]; simp only [List.length_cons, List.length_nil]; omega) ((Ter.ret _).eq ?_)
      rw [bs_app, itoa_big h]

theorem Itoa_is (n : Int) (h0 : -9223372036854775808 ≤ n) (h1 : n ≤ 9223372036854775807) : strconv_Itoa.f n = some (bs (Lib.itoa n)) := by
  unfold strconv_Itoa.f
  rw [if_pos ⟨h0, h1⟩]
  rfl

theorem l12Bytes_is {l : Bs} (m : Nat) (hl : l.length ≤ 1152921504606846976) : Ter (fun k => spec_l12Bytes.f k (bs l) (m : Int)) (plainB m l) := by
  unfold spec_l12Bytes.f
  have key := down_ (Q := fun i => Ter (fun k => spec_l12Bytes.l0 k (bs l) (m : Int) (i : Int)) ((l.drop i).all (fun x => decide (32 ≤ x.toNat) && decide (x.toNat ≤ 126) && x != 35) && decide (l.length ≤ m))) l.length
    (Ter.succ (by
      simp only [spec_l12Bytes.l0]
      refine Ter.ifn (by rw [bs_size]; omega) ((Ter.ret _).eq ?_)
      rw [List.drop_length, bs_size]
      by_cases h : l.length ≤ m <;> simp [h]))
    (fun i hi ih => by
      refine Ter.succ ?_
      simp only [spec_l12Bytes.l0]
      refine Ter.ifp (by rw [bs_size]; omega) (Ter.ifp (by omega) ?_)
      have hx := byte_lt l[i]
      rw [bs_bt hi, w64s hi (by omega), w64 (n := ((l[i].toNat : Nat) : Int)) (by omega) (by omega), lIn_is, drop_at hi, List.all_cons]
      by_cases h1 : 32 ≤ l[i].toNat ∧ l[i].toNat ≤ 126
      · simp only [Option.bind_some]
        refine Ter.ifp (by simp; omega) ?_
        by_cases h2 : l[i] = 35
        · refine Ter.ifp (by rw [h2]; rfl) ((Ter.ret _).eq ?_)
          simp [h2]
        · refine Ter.ifn (fun e => h2 (byte_eq (b := 35) e)) (ih.eq ?_)
          have e3 : (l[i] != 35) = true := by simpa using h2
          simp [h1, e3]
      · simp only [Option.bind_some]
        refine Ter.ifn (by simp; omega) ((Ter.ret _).eq ?_)
        have : (decide (32 ≤ l[i].toNat) && decide (l[i].toNat ≤ 126)) = false := by simp; omega
        simp [this]) 0 (by omega)
  exact key

theorem l1Stands_is {l : Bs} (b : UInt8) (hl : l.length ≤ 1152921504606846976) : Ter (fun k => spec_l1Stands.f k (bs l) (b.toNat : Int)) (l.contains b) := by
  unfold spec_l1Stands.f
  have key := down_ (Q := fun i => Ter (fun k => spec_l1Stands.l0 k (bs l) (b.toNat : Int) (i : Int)) ((l.drop i).contains b)) l.length
    (Ter.succ (by
      simp only [spec_l1Stands.l0]
      refine Ter.ifn (by rw [bs_size]; omega) ((Ter.ret _).eq ?_)
      rw [List.drop_length]
      rfl))
    (fun i hi ih => by
      refine Ter.succ ?_
      simp only [spec_l1Stands.l0]
      refine Ter.ifp (by rw [bs_size]; omega) (Ter.ifp (by omega) ?_)
      rw [bs_bt hi, w64s hi (by omega), drop_at hi, List.contains_cons]
      by_cases h2 : l[i] = b
      · refine Ter.ifp (by rw [h2]) ((Ter.ret _).eq ?_)
        simp [h2]
      · refine Ter.ifn (fun e => h2 (byte_eq e)) (ih.eq ?_)
        simp [Ne.symm h2]) 0 (by omega)
  exact key

theorem l12Record_is {c r : Bs} (hc : c.length ≤ 1152921504606846976) (hr : r.length ≤ 1152921504606846976) : Ter (fun k => spec_l12Record.f k (bs c) (bs r)) (okRec c r) := by
  unfold spec_l12Record.f okRec
  by_cases h0 : c = []
  · refine Ter.ifp (by rw [bs_toList, h0]) ((Ter.ret _).eq ?_)
    simp [h0]
  · refine Ter.ifn (by rw [bs_toList]; exact h0) ((l12Bytes_is 160 hc).bind ?_)
    have e0 : c.isEmpty = false := by simpa using h0
    by_cases h1 : plainB 160 c = true
    · refine Ter.ifp h1 ((l1Stands_is 64 hc).bind ?_)
      by_cases h2 : c.contains 64 = true
      · refine Ter.ifp h2 ((Ter.ret _).eq ?_)
        simp only [e0, h1, h2]
        rfl
      · refine Ter.ifn h2 ((l12Bytes_is 260 hr).bind ((Ter.ret _).eq ?_))
        simp only [e0, h1, Bool.not_eq_true] at h2 ⊢
        rw [h2]
        simp
    · refine Ter.ifn h1 ((Ter.ret _).eq ?_)
      simp only [Bool.not_eq_true] at h1
      simp [h1]

theorem any_is : ∀ (l cs : Bs), Lib.containsAny l cs = l.any (fun x => cs.contains x)
  | [], cs => rfl
  | x :: l, cs => by
    have ih := any_is l cs
    unfold Lib.containsAny at ih ⊢
    rw [List.any_cons, ← ih, Lib.indexAny]
    have := Lib.indexAny_ge cs l
    by_cases h : cs.contains x = true
    · rw [if_pos h, h]; rfl
    · rw [if_neg h]
      simp only [Bool.not_eq_true] at h
      rw [h]
      by_cases h2 : Lib.indexAny l cs = -1
      · simp [h2]
      · rw [if_neg (by simpa using h2)]
        simp only [Bool.false_or, decide_eq_decide]
        omega

theorem isPlain_is {l cs : Bs} (m : Nat) (hl : l.length ≤ 1152921504606846976) (hm : m ≤ 1000) (hc1 : cs.length ≤ 10) (hcs : ∀ b ∈ cs, b.toNat < 128) :
    Ter (fun k => impl_isPlain.f k (bs l) (m : Int) (bs cs)) (l.all (fun x => decide (32 ≤ x.toNat) && decide (x.toNat ≤ 126)) && decide (l.length ≤ m) && !l.any (fun x => cs.contains x)) := by
  unfold impl_isPlain.f
  rw [bs_size]
  have key := down_ (Q := fun i => (∀ x ∈ l.take i, x.toNat < 128) → Ter (fun k => impl_isPlain.l0 k (bs l) (m : Int) (bs cs) (l.length : Int) (i : Int)) ((l.drop i).all (fun x => decide (32 ≤ x.toNat) && decide (x.toNat ≤ 126)) && decide (l.length ≤ m) && !l.any (fun x => cs.contains x))) l.length
    (fun hp => Ter.succ (by
      simp only [impl_isPlain.l0]
      refine Ter.ifn (by omega) ?_
      rw [List.drop_length, bs_size]
      by_cases h : l.length ≤ m
      · refine Ter.ifp (by omega) ?_
        unfold strings_ContainsAny.f
        rw [bs_list, bs_list, bs_size, bs_size, if_pos ⟨by omega, by omega, by rw [List.take_length] at hp; exact hp, hcs⟩, any_is]
        refine (Ter.ret _).eq ?_
        simp [h]
      · refine Ter.ifn (by omega) ((Ter.ret _).eq ?_)
        simp [h]))
    (fun i hi ih hp => by
      refine Ter.succ ?_
      simp only [impl_isPlain.l0]
      refine Ter.ifp (by omega) (Ter.ifp (by omega) (Ter.ifp (by rw [bs_size]; omega) ?_))
      rw [bs_bt hi, w64s hi (by omega), drop_at hi, List.all_cons]
      by_cases h1 : (l[i].toNat : Int) < 32
      · refine Ter.ifp h1 ((Ter.ret _).eq ?_)
        have : decide (32 ≤ l[i].toNat) = false := by simp; omega
        simp [this]
      · refine Ter.ifn h1 ?_
        by_cases h2 : (l[i].toNat : Int) > 126
        · refine Ter.ifp h2 ((Ter.ret _).eq ?_)
          have : decide (l[i].toNat ≤ 126) = false := by simp; omega
          simp [this]
        · refine Ter.ifn h2 ((ih ?_).eq ?_)
          · intro x hx
            rw [← take_one hi, List.mem_append, List.mem_singleton] at hx
            rcases hx with hx | hx
            · exact hp x hx
            · subst hx; omega
          · have e1 : decide (32 ≤ l[i].toNat) = true := by simp; omega
            have e2 : decide (l[i].toNat ≤ 126) = true := by simp; omega
            simp [e1, e2]) 0 (by omega)
  exact key (by simp)

theorem plain_split (m : Nat) (l : Bs) : plainB m l = (l.all (fun x => decide (32 ≤ x.toNat) && decide (x.toNat ≤ 126)) && l.all (fun x => x != 35) && decide (l.length ≤ m)) := by
  unfold plainB
  congr 1
  induction l with
  | nil => rfl
  | cons x l ih =>
    have : ∀ a b c d : Bool, (a && b && (c && d)) = (a && c && (b && d)) := by decide
    rw [List.all_cons, List.all_cons, List.all_cons, ih, this]

theorem any_hash (l : Bs) : (!l.any (fun x => ([35] : Bs).contains x)) = l.all (fun x => x != 35) := by
  induction l with
  | nil => rfl
  | cons x l ih => simp only [List.any_cons, List.all_cons, ← ih, Bool.not_or]; congr 1; by_cases h : x = 35 <;> simp [h]

theorem any_both (l : Bs) : (!l.any (fun x => ([35, 64] : Bs).contains x)) = (l.all (fun x => x != 35) && !l.contains 64) := by
  induction l with
  | nil => rfl
  | cons x l ih =>
    by_cases h : x = 35
    · subst h; simp
    · by_cases h2 : x = 64
      · subst h2; simp
      · have this : ((64 : UInt8) == x) = false := by simpa using Ne.symm h2
        have e1 : ([35, 64] : Bs).contains x = false := by simp [h, h2]
        have e2 : (x != 35) = true := by simpa using h
        rw [List.any_cons, e1, List.all_cons, e2, show (x :: l).contains 64 = l.contains 64 by rw [List.contains_cons, this, Bool.false_or], Bool.false_or, Bool.true_and]
        exact ih

theorem IsValidRecord_is {c r : Bs} (hc : c.length ≤ 1152921504606846976) (hr : r.length ≤ 1152921504606846976) : Ter (fun k => impl_IsValidRecord.f k (bs c) (bs r)) (okRec c r) := by
  unfold impl_IsValidRecord.f okRec
  have e1 : Ter (fun k => impl_isCommand.f k (bs c)) (!c.isEmpty && plainB 160 c && !c.contains 64) := by
    unfold impl_isCommand.f
    by_cases h0 : c = []
    · refine Ter.ifp (by rw [bs_toList, h0]) ((Ter.ret _).eq ?_)
      simp [h0]
    · refine Ter.ifn (by rw [bs_toList]; exact h0) ?_
      rw [lit2]
      refine (isPlain_is 160 hc (by omega) (by simp) (by decide)).bind ((Ter.ret _).eq ?_)
      have e0 : c.isEmpty = false := by simpa using h0
      rw [any_both, plain_split, e0]
      exact (by decide : ∀ a b d e : Bool, (a && d && (b && e)) = (!false && (a && b && d) && e)) _ _ _ _
  refine e1.bind ?_
  by_cases h : (!c.isEmpty && plainB 160 c && !c.contains 64) = true
  · rw [h]
    refine Ter.ifp rfl ?_
    rw [lit1]
    refine (isPlain_is 260 hr (by omega) (by simp) (by decide)).bind ((Ter.ret _).eq ?_)
    rw [any_hash, plain_split, Bool.true_and]
    exact (by decide : ∀ a b d : Bool, (a && d && b) = (a && b && d)) _ _ _
  · simp only [Bool.not_eq_true] at h
    rw [h]
    exact Ter.ifn (by decide) ((Ter.ret _).eq rfl)

theorem l1Seal_is {l : Bs} (hl : l.length ≤ 1000000000) : Ter (fun k => spec_l1Seal.f k (bs l)) (bs (sealB l)) := by
  have hs := sumL_range l 7 (by omega) (by omega)
  obtain ⟨n, hn⟩ : ∃ n : Nat, sumL 7 l = (n : Int) := ⟨(sumL 7 l).toNat, by omega⟩
  have h2 := itoa_len hs.1 5 (by omega)
  unfold spec_l1Seal.f sealB
  refine Ter.ifp (by rw [bs_size]; omega) ((l1Sum_is (by omega)).bind ?_)
  rw [hn] at h2 ⊢
  refine (l1Num_is n (by omega)).bind ?_
  rw [lit1, bs_app]
  refine Ter.ifp (by rw [bs_size, bs_size]; simp only [List.length_append, List.length_cons, List.length_nil]; omega) ((Ter.ret _).eq ?_)
  rw [bs_app]
  simp

theorem line_app (k : Int) (c r : Bs) : ((((Lib.itoa k ++ [32]) ++ c) ++ [64]) ++ r) = bodyB k c r := by unfold bodyB; simp

theorem l12Line_is {c r : Bs} (k : Nat) (hk : k ≤ 1000) (hc : c.length ≤ 100000000) (hr : r.length ≤ 100000000) : Ter (fun n => spec_l12Line.f n (k : Int) (bs c) (bs r)) (bs (lineB (k : Int) c r)) := by
  have h2 := itoa_len (n := (k : Int)) (by omega) 3 (by omega)
  unfold spec_l12Line.f
  refine (l1Num_is k (by omega)).bind ?_
  simp only [lit1, bs_app, bs_size, List.length_append, List.length_cons, List.length_nil]
  refine Ter.ifp (by omega) (Ter.ifp (by omega) (Ter.ifp (by omega) (Ter.ifp (by omega) ?_)))
  rw [line_app]
  have h3 : (bodyB (k : Int) c r).length ≤ 1000000000 := by unfold bodyB; simp only [List.length_append, List.length_cons]; omega
  refine (l1Seal_is h3).bind ?_
  have h4 := seal_len (bodyB (k : Int) c r)
  rw [bs_size]
  exact Ter.ifp (by omega) ((Ter.ret _).eq (by rw [bs_app]; rfl))

theorem Contains_is (l : Bs) (b : UInt8) : strings_Contains.f (bs l) (⟨#[b]⟩ : ByteArray) = some (l.contains b) := by
  show some (decide (0 ≤ Lib.indexByte l b)) = _
  congr 1
  induction l with
  | nil => rfl
  | cons x l ih =>
    rw [List.contains_cons, ← ih, Lib.indexByte]
    have := Lib.indexByte_ge l b
    by_cases h : x = b
    · subst h; simp
    · have h1 : (x == b) = false := by simpa using h
      have h2 : (b == x) = false := by simpa using Ne.symm h
      rw [h1, h2]
      by_cases h3 : Lib.indexByte l b = -1
      · simp [h3]
      · have h4 : (Lib.indexByte l b == -1) = false := by simpa using h3
        rw [h4]
        simp only [Bool.false_eq_true, if_false, Bool.false_or, decide_eq_decide]
        omega

theorem AppendChecksum_is {l : Bs} (hl : l.length ≤ 1000000000) (hn : (35 : UInt8) ∉ l) : Ter (fun k => impl_AppendChecksum.f k (bs l)) (if (sealB l).length ≤ 4000 then (bs (sealB l), true) else (bs [], false)) := by
  have hs := sumL_range l 7 (by omega) (by omega)
  have h2 := itoa_len hs.1 5 (by omega)
  have h3 : (sealB l).length = l.length + 1 + (Lib.itoa (sumL 7 l)).length := by unfold sealB; simp only [List.length_append, List.length_cons]; omega
  have hj : l.length ≤ 4000 → Ter (fun k => impl_AppendChecksum.j0 k (bs l) false) (if (sealB l).length ≤ 4000 then (bs (sealB l), true) else (bs [], false)) := by
    intro h4
    refine Ter.succ ?_
    simp only [impl_AppendChecksum.j0]
    refine Ter.ifn (by decide) (Ter.ifp (by rw [bs_size]; omega) ((checksum_is (by omega)).bind ?_))
    rw [Itoa_is _ (by omega) (by omega)]
    simp only [Option.bind_some, lit1, lit0, bs_app, bs_size, List.length_append, List.length_cons, List.length_nil]
    refine Ter.ifp (by omega) ?_
    by_cases h5 : (sealB l).length ≤ 4000
    · rw [if_pos h5]
      refine Ter.ifn (by omega) ((Ter.ret _).eq ?_)
      unfold sealB
      simp
    · rw [if_neg h5]
      exact Ter.ifp (by omega) (Ter.ret _)
  unfold impl_AppendChecksum.f
  by_cases h4 : l.length ≤ 4000
  · refine Ter.ifn (by rw [bs_size]; omega) ?_
    rw [Contains_is]
    have : l.contains 35 = false := by simpa using hn
    rw [this]
    exact hj h4
  · refine Ter.ifp (by rw [bs_size]; omega) ?_
    refine Ter.succ ?_
    simp only [impl_AppendChecksum.j0]
    rw [if_neg (by omega)]
    exact Ter.ifp trivial (Ter.ret _)

theorem cut_no (l : Bs) (b : UInt8) : b ∉ (Lib.cut l [b]).1 := by
  by_cases hm : b ∈ l
  · have e := split_at hm
    rw [e, cut_app _ (not_ahead l)]
    exact not_ahead l
  · rw [cut_not hm]
    exact hm

theorem cut_len (l : Bs) (b : UInt8) : (Lib.cut l [b]).1.length ≤ l.length ∧ (Lib.cut l [b]).2.1.length ≤ l.length := by
  by_cases hm : b ∈ l
  · have e := split_at hm
    have e2 : Lib.cut l [b] = (ahead b l, behind b l, true) := by rw [e, cut_app _ (not_ahead l), ← e]
    have e3 := congrArg List.length e
    simp only [List.length_append, List.length_cons] at e3
    rw [e2]
    constructor <;> simp only [] <;> omega
  · rw [cut_not hm]
    simp

theorem Cut_is (l : Bs) (b : UInt8) (hl : l.length < 4294967281) : strings_Cut.f (bs l) (⟨#[b]⟩ : ByteArray) = some (bs (Lib.cut l [b]).1, bs (Lib.cut l [b]).2.1, (Lib.cut l [b]).2.2) := by
  unfold strings_Cut.f
  rw [if_pos (by rw [bs_size]; exact hl)]
  rfl

theorem Verify_is {l : Bs} (hl : l.length ≤ 1000000000) : ∃ b : Bool, Ter (fun k => impl_VerifyChecksum.f k (bs l)) (bs (verB l), b) := by
  have h1 := cut_len l 35
  unfold impl_VerifyChecksum.f
  simp only [Cut_is l 35 (by omega), Option.bind_some]
  by_cases h : (sealB (Lib.cut l [35]).1).length ≤ 4000
  · by_cases h2 : sealB (Lib.cut l [35]).1 = l
    · refine ⟨true, (AppendChecksum_is (by omega) (cut_no l 35)).bind ?_⟩
      rw [if_pos h]
      refine Ter.ifp rfl (Ter.ifp (by rw [bs_toList, bs_toList]; exact h2) ((Ter.ret _).eq ?_))
      unfold verB
      rw [if_pos ⟨h2, by rw [h2] at h; exact h⟩]
    · refine ⟨false, (AppendChecksum_is (by omega) (cut_no l 35)).bind ?_⟩
      rw [if_pos h]
      refine Ter.ifp rfl (Ter.ifn (by rw [bs_toList, bs_toList]; exact h2) ((Ter.ret _).eq ?_))
      unfold verB
      rw [if_neg (fun e => h2 e.1)]
      rfl
  · refine ⟨false, (AppendChecksum_is (by omega) (cut_no l 35)).bind ?_⟩
    rw [if_neg h]
    refine Ter.ifn (by decide) ((Ter.ret _).eq ?_)
    unfold verB
    rw [if_neg (fun e => h (by rw [e.1]; exact e.2))]
    rfl

/-- What both encoders tell. -/
def encB (k : Int) (c r : Bs) : ByteArray × Bool := if (0 ≤ k ∧ k ≤ 59) ∧ okRec c r = true then (bs (lineB k c r), true) else (bs [], false)

theorem implEncode_is {c r : Bs} (k : Int) (hc : c.length ≤ 100000000) (hr : r.length ≤ 100000000) : Ter (fun n => impl_EncodeRecord.f n k (bs c) (bs r)) (encB k c r) := by
  have hj : Ter (fun n => impl_EncodeRecord.j0 n k true (bs c) (bs r)) (bs [], false) := Ter.succ (by simp only [impl_EncodeRecord.j0]; exact Ter.ifp trivial (Ter.ret _))
  unfold impl_EncodeRecord.f encB
  rw [lWithin_is]
  simp only [Option.bind_some]
  by_cases h : 0 ≤ k ∧ k ≤ 59
  · refine Ter.ifp (by simp; omega) ((IsValidRecord_is (by omega) (by omega)).bind ?_)
    by_cases h2 : okRec c r = true
    · rw [if_pos ⟨h, h2⟩, h2]
      refine Ter.succ ?_
      simp only [impl_EncodeRecord.j0]
      rw [Itoa_is k (by omega) (by omega)]
      simp only [Option.bind_some, lit1, bs_app, bs_size, List.length_append, List.length_cons, List.length_nil]
      have h3 := itoa_len h.1 1 (by omega)
      have ho := okRec_ok h2
      have h4 := body_len h.1 (by omega) ho
      have h5 := seal_len (bodyB k c r)
      refine Ter.ifn (by decide) (Ter.ifp (by omega) (Ter.ifp (by omega) (Ter.ifp (by omega) (Ter.ifp (by omega) ?_))))
      rw [line_app]
      have hA := AppendChecksum_is (l := bodyB k c r) (by omega) (body_hash h.1 ho)
      rw [if_pos (show (sealB (bodyB k c r)).length ≤ 4000 by omega)] at hA
      refine hA.bind ?_
      exact Ter.ifp (by rw [bs_size]; omega) ((Ter.ret _).eq (by rw [bs_app]; rfl))
    · rw [if_neg (fun e => h2 e.2)]
      simp only [Bool.not_eq_true] at h2
      rw [h2]
      exact hj
  · rw [if_neg (fun e => h e.1)]
    exact Ter.ifn (by simp; omega) hj
end Go.Proofs.YtaceoijcjkbgfaaDoor.P
namespace Go.Proofs.YtaceoijcjkbgfaaDoor.P
open Go.RowKit Go.Proofs.YtaceoijcjkbgfaaDoorW.PrintWords Go.Proofs.YtaceoijcjkbgfaaDoorW.PrintLast Go.Proofs.YtaceoijcjkbgfaaDoorW.PrintMore
set_option linter.unusedVariables false
set_option linter.unusedSimpArgs false

theorem take_drop_app {l : Bs} {i j : Nat} (h : i ≤ j) : l.drop i = (l.take j).drop i ++ l.drop j := by
  by_cases hj : j ≤ l.length
  · have e : l = l.take j ++ l.drop j := (List.take_append_drop j l).symm
    have : (l.take j ++ l.drop j).drop i = (l.take j).drop i ++ l.drop j := List.drop_append_of_le_length (by rw [List.length_take]; omega)
    rw [← e] at this
    exact this
  · rw [show l.drop j = [] from List.drop_eq_nil_of_le (by omega), List.append_nil, List.take_of_length_le (by omega)]

theorem l1Split_is {l : Bs} (b : UInt8) (hl : l.length ≤ 1000000000) : ∃ (p : List ByteArray) (q : ByteArray × List ByteArray), Ter (fun k => spec_l1Split.f k (bs l) (b.toNat : Int)) (bs (ahead b l) :: p) ∧ (b ∉ l → p = []) ∧ (b ∈ l → p = q.1 :: q.2) := by
  have key := down_ (Q := fun i => ∀ (out : List ByteArray) (a : Nat), a ≤ i → out.length ≤ i → b ∉ (l.take i).drop a → ∃ (p : List ByteArray) (q : ByteArray × List ByteArray), Ter (fun k => spec_l1Split.l0 k (bs l) (b.toNat : Int) out (a : Int) (i : Int)) (out ++ bs (ahead b (l.drop a)) :: p) ∧ (b ∉ l.drop i → p = []) ∧ (b ∈ l.drop i → p = q.1 :: q.2)) l.length
    (fun out a ha ho hb => ⟨[], (ByteArray.empty, []), Ter.succ (by
      simp only [spec_l1Split.l0]
      refine Ter.ifn (by rw [bs_size]; omega) (Ter.ifp (by omega) (Ter.ifp (by rw [bs_size]; omega) (Ter.ifp (by omega) ((Ter.ret _).eq ?_))))
      rw [bs_size, Int.toNat_natCast, bs_from]
      rw [List.take_length] at hb
      rw [ahead_none hb]), fun _ => rfl, fun h => by rw [List.drop_length] at h; cases h⟩)
    (fun i hi ih out a ha ho hb => by
      have hbt : bt (bs l) (i : Int) = (l[i].toNat : Int) := bs_bt hi
      by_cases h2 : l[i] = b
      · obtain ⟨p, q, h3, _, _⟩ := ih (out ++ [bs (ahead b (l.drop a))]) (i + 1) (Nat.le_refl _) (by simp; omega) (by rw [List.drop_eq_nil_of_le (by rw [List.length_take]; omega)]; simp)
        refine ⟨bs (ahead b (l.drop (i + 1))) :: p, (bs (ahead b (l.drop (i + 1))), p), Ter.succ ?_, fun h => absurd (by rw [drop_at hi, h2]; simp) h, fun _ => rfl⟩
        simp only [spec_l1Split.l0]
        refine Ter.ifp (by rw [bs_size]; omega) (Ter.ifp (by omega) (Ter.ifp (by rw [hbt, h2]) (Ter.ifp (by omega) (Ter.ifp (by omega) (Ter.ifp (by rw [bs_size]; omega) (Ter.ifp (by omega) ?_))))))
        rw [w64s hi (by omega), Int.toNat_natCast, Int.toNat_natCast, bs_cut]
        have e1 : ahead b (l.drop a) = (l.take i).drop a := by
          rw [take_drop_app ha, drop_at hi, h2]
          exact ahead_app _ hb
        rw [e1] at h3
        refine h3.eq ?_
        rw [e1]
        simp
      · obtain ⟨p, q, h3, h4, h5⟩ := ih out a (by omega) (by omega) (by
          have e : (l.take (i + 1)).drop a = (l.take i).drop a ++ [l[i]] := by
            rw [← take_one hi, List.drop_append_of_le_length (by rw [List.length_take]; omega)]
          rw [e, List.mem_append, List.mem_singleton]
          rintro (h | h)
          · exact hb h
          · exact h2 h.symm)
        refine ⟨p, q, Ter.succ ?_, fun h => h4 (fun h6 => h (by rw [drop_at hi]; exact List.mem_cons_of_mem _ h6)), fun h => h5 (by
          rw [drop_at hi] at h
          rcases List.mem_cons.1 h with h | h
          · exact absurd h.symm h2
          · exact h)⟩
        simp only [spec_l1Split.l0]
        refine Ter.ifp (by rw [bs_size]; omega) (Ter.ifp (by omega) (Ter.ifn (fun e => h2 (byte_eq (hbt.symm.trans e))) ?_))
        rw [w64s hi (by omega)]
        exact h3) 0 (by omega)
  obtain ⟨p, q, h1, h2, h3⟩ := key [] 0 (Nat.le_refl _) (Nat.le_refl _) (by simp)
  exact ⟨p, q, h1, h2, h3⟩

theorem rd_head (x : ByteArray) (p : List ByteArray) : rdOf ByteArray.empty (x :: p) 0 = x := rfl

theorem ahead_len (b : UInt8) (l : Bs) : (ahead b l).length ≤ l.length := (List.takeWhile_sublist _).length_le

theorem dec_is {l : Bs} (k : Nat) (hk : k ≤ 100) (hl : l.length ≤ 1000000) : ∃ x y : Bs, ∃ ok : Bool, Ter (fun n => spec_l12Decode.f n (bs l) (k : Int)) (bs x, bs y, ok) ∧ dec l (k : Int) = if ok = true then some (x, y) else none := by
  have hn := itoa_len (n := (k : Int)) (by omega) 2 (by omega)
  obtain ⟨p, q, hs, _, _⟩ := l1Split_is (l := l) 35 (by omega)
  have ht := ahead_len 35 l
  have hF0 : ∀ {r : ByteArray × ByteArray × Bool}, Ter (fun n => if ((ahead 35 l).length : Int) < ((Lib.itoa (k : Int) ++ [32]).length : Int) then spec_l12Decode.j0 n (bs l) (k : Int) (bs (Lib.itoa (k : Int) ++ [32])) (bs (ahead 35 l)) true else spec_l12Decode.j0 n (bs l) (k : Int) (bs (Lib.itoa (k : Int) ++ [32])) (bs (ahead 35 l)) ((ahead 35 l).take (Lib.itoa (k : Int) ++ [32]).length != Lib.itoa (k : Int) ++ [32])) r → Ter (fun n => spec_l12Decode.f n (bs l) (k : Int)) r := by
    intro r h
    unfold spec_l12Decode.f
    refine (l1Num_is k (by omega)).bind ?_
    simp only [lit1, bs_app, bs_size]
    refine Ter.ifp (by omega) (hs.bind ?_)
    refine Ter.ifp (by simp only [List.length_cons]; omega) ?_
    rw [rd_head, bs_size]
    by_cases hc : ((ahead 35 l).length : Int) < ((Lib.itoa (k : Int) ++ [32]).length : Int)
    · simp only [if_pos hc] at h ⊢
      exact h
    · simp only [if_neg hc] at h ⊢
      refine Ter.ifp (by omega) (Ter.ifp (by omega) ?_)
      rw [Int.toNat_natCast, bs_upto, bs_toList, bs_toList]
      exact h
  generalize hd_ : Lib.itoa (k : Int) ++ [32] = hd at hF0
  generalize ht_ : ahead 35 l = text at hF0 ht
  have hT : Ter (fun n => spec_l12Decode.j0 n (bs l) (k : Int) (bs hd) (bs text) true) (bs [], bs [], false) := Ter.succ (by simp only [spec_l12Decode.j0]; exact Ter.ifp trivial (Ter.ret _))
  unfold dec
  simp only [hd_, ht_]
  by_cases c1 : text.length < hd.length
  · simp only [if_pos (Int.ofNat_lt.2 c1)] at hF0
    exact ⟨[], [], false, hF0 hT, by rw [if_pos (.inl c1)]; rfl⟩
  · simp only [if_neg (fun e => c1 (Int.ofNat_lt.1 e))] at hF0
    have hF := @hF0
    clear hF0
    by_cases c2 : text.take hd.length = hd
    · have e2 : (text.take hd.length != hd) = false := by simpa using c2
      rw [e2] at hF
      rw [if_neg (by rintro (h | h); exact c1 h; exact h c2)]
      obtain ⟨p2, q2, hs2, _, _⟩ := l1Split_is (l := text.drop hd.length) 64 (by simp; omega)
      have ht2 := ahead_len 64 (text.drop hd.length)
      have h7 : (ahead 64 (text.drop hd.length)).length ≤ 1000000 := by
        rw [List.length_drop] at ht2
        omega
      have hJ : ∀ {r : ByteArray × ByteArray × Bool}, Ter (fun n => if (((ahead 64 (text.drop hd.length)).length : Nat) : Int) = ((text.drop hd.length).length : Int) then some (bs [], bs [], false) else ((spec_l12Record.f n (bs (ahead 64 (text.drop hd.length))) (bs ((text.drop hd.length).drop ((ahead 64 (text.drop hd.length)).length + 1)))).bind fun t188 => (if t188 = true then ((spec_l12Line.f n (k : Int) (bs (ahead 64 (text.drop hd.length))) (bs ((text.drop hd.length).drop ((ahead 64 (text.drop hd.length)).length + 1)))).bind fun t189 => some (bs (ahead 64 (text.drop hd.length)), bs ((text.drop hd.length).drop ((ahead 64 (text.drop hd.length)).length + 1)), t189.toList == l ++ [10])) else some (bs (ahead 64 (text.drop hd.length)), bs ((text.drop hd.length).drop ((ahead 64 (text.drop hd.length)).length + 1)), false)))) r → Ter (fun n => spec_l12Decode.j0 n (bs l) (k : Int) (bs hd) (bs text) false) r := by
        intro r h
        refine Ter.succ ?_
        simp only [spec_l12Decode.j0, bs_size, Int.toNat_natCast, bs_from]
        refine Ter.ifn (by decide) (Ter.ifp (by omega) (Ter.ifp (by omega) (hs2.bind ?_)))
        refine Ter.ifp (by simp only [List.length_cons]; omega) ?_
        rw [rd_head]
        simp only [bs_size]
        by_cases c3 : (((ahead 64 (text.drop hd.length)).length : Nat) : Int) = ((text.drop hd.length).length : Int)
        · simp only [if_pos c3] at h
          exact Ter.ifp c3 h
        · simp only [if_neg c3] at h
          refine Ter.ifn c3 ?_
          have e3 : wrap64 ((((ahead 64 (text.drop hd.length)).length : Nat) : Int) + 1) = (((ahead 64 (text.drop hd.length)).length + 1 : Nat) : Int) := by
            generalize (ahead 64 (text.drop hd.length)).length = m at h7
            rw [w64 (by omega) (by omega)]
            omega
          simp only [e3]
          refine Ter.ifp (by omega) (Ter.ifp (by omega) ?_)
          have e9 : l.length + 1 ≤ 9223372036854775807 := by omega
          simp only [Int.toNat_natCast, bs_from, lit1, bs_app, bs_toList, if_pos e9]
          exact h
      by_cases c3 : (ahead 64 (text.drop hd.length)).length = (text.drop hd.length).length
      · refine ⟨[], [], false, hF (hJ (Ter.ifp (by rw [c3]) (Ter.ret _))), ?_⟩
        rw [if_pos c3]
        rfl
      · rw [if_neg c3]
        generalize ha_ : ahead 64 (text.drop hd.length) = ask at hJ ht2 c3
        generalize hr_ : (text.drop hd.length).drop (ask.length + 1) = rep at hJ
        have h5 : ask.length ≤ 1000000 := by simp at ht2; omega
        have h6 : rep.length ≤ 1000000 := by rw [← hr_]; simp; omega
        by_cases c4 : okRec ask rep = true
        · refine ⟨ask, rep, lineB (k : Int) ask rep == l ++ [10], hF (hJ (Ter.ifn (by omega) ((l12Record_is (by omega) (by omega)).bind ?_))), ?_⟩
          · refine Ter.ifp c4 ((l12Line_is k (by omega) (by omega) (by omega)).bind ((Ter.ret _).eq ?_))
            rw [bs_toList]
          · by_cases c5 : lineB (k : Int) ask rep = l ++ [10]
            · rw [if_pos ⟨c4, c5⟩, if_pos (by simpa using c5)]
            · rw [if_neg (fun e => c5 e.2), if_neg (by simpa using c5)]
        · refine ⟨ask, rep, false, hF (hJ (Ter.ifn (by omega) ((l12Record_is (by omega) (by omega)).bind (Ter.ifn c4 (Ter.ret _))))), ?_⟩
          rw [if_neg (fun e => c4 e.1)]
          rfl
    · have e2 : (text.take hd.length != hd) = true := by simpa using c2
      rw [e2] at hF
      exact ⟨[], [], false, hF hT, by rw [if_pos (.inr c2)]; rfl⟩

def toRec (p : Bs × Bs) : S47 := ⟨bs p.1, bs p.2⟩

theorem one_len {k : Int} (hk : 0 ≤ k) {t : Bs} {c r : Bs} (h : one k t = some (c, r)) : t.length ≥ (lineB k c r).length := (one_starts h).2.length_le

theorem line_ahead {k : Int} (hk : 0 ≤ k) {t c r : Bs} (h : one k t = some (c, r)) : (10 : UInt8) ∈ t ∧ (ahead 10 t).length + 1 = (lineB k c r).length := by
  obtain ⟨ho, q, rfl⟩ := one_starts h
  have hr := okRec_ok ho
  unfold lineB
  refine ⟨by simp, ?_⟩
  rw [List.append_assoc, show [10] ++ q = 10 :: q from rfl, ahead_app q (seal_nl (body_nl hk hr))]
  simp

theorem l12Open_is {l : Bs} (hl : l.length ≤ 1000000) : Ter (fun n => spec_l12Open.f n (bs l)) ((recs 60 0 l).map toRec, (lenR 0 (recs 60 0 l) : Int)) := by
  have key : ∀ (n : Nat) (out : List S47) (a : Nat), out.length + n = 60 → a ≤ l.length → Ter (fun k => spec_l12Open.l0 k (bs l) out (a : Int)) (out ++ (recs n (out.length : Int) (l.drop a)).map toRec, ((a + lenR (out.length : Int) (recs n (out.length : Int) (l.drop a)) : Nat) : Int)) := by
    have hj : ∀ (out : List S47) (a : Nat), Ter (fun k => spec_l12Open.j1 k (bs l) out (a : Int) false) (out, (a : Int)) := fun out a => Ter.succ (by simp only [spec_l12Open.j1]; exact Ter.ifn (by decide) (Ter.ret _))
    intro n
    induction n with
    | zero =>
      intro out a h1 h2
      refine Ter.succ ?_
      simp only [spec_l12Open.l0, recs, List.map_nil, List.append_nil, lenR, Nat.add_zero]
      rw [show decide ((out.length : Int) < 60) = false by simp; omega]
      exact Ter.if_eq (fun _ => hj out a) (fun _ => hj out a)
    | succ n ih =>
      intro out a h1 h2
      refine Ter.succ ?_
      simp only [spec_l12Open.l0, bs_size]
      by_cases h3 : a < l.length
      · refine Ter.ifp (by omega) ?_
        rw [show decide ((out.length : Int) < 60) = true by simp; omega]
        refine Ter.succ ?_
        simp only [spec_l12Open.j1, bs_size, Int.toNat_natCast, bs_from]
        refine Ter.ifp trivial (Ter.ifp (by omega) (Ter.ifp (by omega) ?_))
        obtain ⟨p, q, hs, hp1, hp2⟩ := l1Split_is (l := l.drop a) 10 (by simp; omega)
        refine hs.bind (Ter.ifp (by simp only [List.length_cons]; omega) ?_)
        rw [rd_head]
        have hal := ahead_len 10 (l.drop a)
        obtain ⟨x, y, ok, hd, hd2⟩ := dec_is (l := ahead 10 (l.drop a)) out.length (by omega) (by simp at hal; omega)
        refine hd.bind ?_
        have e1 := one'_eq (k := (out.length : Int)) (by omega) (by omega) (l.drop a)
        unfold one' at e1
        by_cases h4 : (10 : UInt8) ∈ l.drop a
        · rw [if_pos h4, hd2] at e1
          rw [hp2 h4]
          refine Ter.ifn (by simp only [List.length_cons]; omega) ?_
          cases ok with
          | false =>
            rw [if_neg (by decide)] at e1
            refine Ter.ifn (by simp) ((Ter.ret _).eq ?_)
            simp only [recs, ← e1, List.map_nil, List.append_nil, lenR, Nat.add_zero]
          | true =>
            rw [if_pos rfl] at e1
            refine Ter.ifp rfl (Ter.ifp (by omega) ?_)
            have e2 := (line_ahead (k := (out.length : Int)) (by omega) e1.symm).2
            have e3 := one_len (k := (out.length : Int)) (by omega) e1.symm
            simp only [List.length_drop] at e3
            have e4 : wrap64 (wrap64 ((a : Int) + ((bs (ahead 10 (l.drop a))).size : Int)) + 1) = ((a + (lineB (out.length : Int) x y).length : Nat) : Int) := by
              rw [bs_size, w64 (n := (a : Int) + _) (by omega) (by omega), w64 (by omega) (by omega)]
              omega
            rw [e4]
            refine (ih (out ++ [(⟨bs x, bs y⟩ : S47)]) (a + (lineB (out.length : Int) x y).length) (by simp; omega) (by omega)).eq ?_
            have e5 : ((out ++ [(⟨bs x, bs y⟩ : S47)]).length : Int) = (out.length : Int) + 1 := by simp
            rw [e5]
            simp only [recs, ← e1, List.map_cons, lenR, List.drop_drop]
            rw [List.append_assoc, Nat.add_assoc]
            rfl
        · rw [if_neg h4] at e1
          rw [hp1 h4]
          refine Ter.ifp (by simp) ((Ter.ret _).eq ?_)
          simp only [recs, ← e1, List.map_nil, List.append_nil, lenR, Nat.add_zero]
      · refine Ter.ifn (by omega) ((hj out a).eq ?_)
        have e0 : l.drop a = [] := List.drop_eq_nil_of_le (by omega)
        simp only [recs, e0, one_nil (k := (out.length : Int)) (by omega), List.map_nil, List.append_nil, lenR, Nat.add_zero]
  unfold spec_l12Open.f
  have := key 60 [] 0 rfl (by omega)
  simpa using this

/-- The program's ends, as the printed function keeps them: behind the first one. -/
def endsI (a : Nat) (k : Int) (l : List (Bs × Bs)) : List Int := (endsR a k l).map fun (n : Nat) => (n : Int)

theorem endsI_cons (a : Nat) (k : Int) (e : Bs × Bs) (l : List (Bs × Bs)) : endsI a k (e :: l) = (a : Int) :: endsI (a + (lineB k e.1 e.2).length) (k + 1) l := rfl

theorem encB_eq {k : Int} (h0 : 0 ≤ k) (h1 : k ≤ 59) {c r : Bs} : encB k c r = if okRec c r = true then (bs (lineB k c r), true) else (bs [], false) := by
  unfold encB
  by_cases h : okRec c r = true
  · rw [if_pos ⟨⟨h0, h1⟩, h⟩, if_pos h]
  · rw [if_neg (fun e => h e.2), if_neg h]

theorem verB_len (l : Bs) : (verB l).length ≤ l.length := by
  have := (cut_len l 35).1
  unfold verB
  split
  · exact this
  · simp

set_option maxHeartbeats 1000000 in
theorem readRecords_is {l : Bs} (hl : l.length ≤ 1000000) : Ter (fun n => impl_readRecords.f n (bs l)) ((recs 60 0 l).map toRec, endsI 0 0 (recs 60 0 l)) := by
  have key : ∀ (n : Nat) (out : List S47) (en : List Int) (a : Nat), out.length + n = 60 → en.length + n ≤ 61 → a ≤ l.length → Ter (fun k => impl_readRecords.l0 k (bs l) out (en ++ [(a : Int)]) (a : Int)) (out ++ (recs n (out.length : Int) (l.drop a)).map toRec, en ++ endsI a (out.length : Int) (recs n (out.length : Int) (l.drop a))) := by
    intro n
    induction n with
    | zero =>
      intro out en a h1 h3 h4
      refine Ter.succ ?_
      simp only [impl_readRecords.l0, recs, List.map_nil, List.append_nil]
      exact Ter.ifn (by omega) (Ter.ret _)
    | succ n ih =>
      intro out en a h1 h3 h4
      refine Ter.succ ?_
      simp only [impl_readRecords.l0, bs_size, Int.toNat_natCast, bs_from]
      refine Ter.ifp (by omega) (Ter.ifp (by omega) (Ter.ifp (by omega) ?_))
      have hstop : one (out.length : Int) (l.drop a) = none → Ter (fun _ : Nat => some (out, en ++ [(a : Int)])) (out ++ (recs (n + 1) (out.length : Int) (l.drop a)).map toRec, en ++ endsI a (out.length : Int) (recs (n + 1) (out.length : Int) (l.drop a))) := by
        intro h
        refine (Ter.ret _).eq ?_
        simp only [recs, h, List.map_nil, List.append_nil]
        rfl
      have hd1 : (l.drop a).length ≤ 1000000 := by simp; omega
      generalize ht_ : l.drop a = t at hstop hd1 ⊢
      have hc1 := cut_len t 10
      rw [Cut_is t 10 (by omega)]
      simp only [Option.bind_some]
      by_cases hw : (Lib.cut t [10]).2.2 = true
      · refine Ter.ifp hw ?_
        obtain ⟨vb, hv⟩ := Verify_is (l := (Lib.cut t [10]).1) (by omega)
        refine hv.bind ?_
        have hvl := verB_len (Lib.cut t [10]).1
        have hc2 := cut_len (verB (Lib.cut t [10]).1) 32
        have hc3 := cut_len (Lib.cut (verB (Lib.cut t [10]).1) [32]).2.1 64
        simp only [Cut_is (verB (Lib.cut t [10]).1) 32 (by omega), Option.bind_some, Cut_is (Lib.cut (verB (Lib.cut t [10]).1) [32]).2.1 64 (by omega)]
        have hone : one (out.length : Int) t = if okRec (Lib.cut (Lib.cut (verB (Lib.cut t [10]).1) [32]).2.1 [64]).1 (Lib.cut (Lib.cut (verB (Lib.cut t [10]).1) [32]).2.1 [64]).2.1 = true ∧ lineB (out.length : Int) (Lib.cut (Lib.cut (verB (Lib.cut t [10]).1) [32]).2.1 [64]).1 (Lib.cut (Lib.cut (verB (Lib.cut t [10]).1) [32]).2.1 [64]).2.1 = (Lib.cut t [10]).1 ++ [10] then some ((Lib.cut (Lib.cut (verB (Lib.cut t [10]).1) [32]).2.1 [64]).1, (Lib.cut (Lib.cut (verB (Lib.cut t [10]).1) [32]).2.1 [64]).2.1) else none := by
          unfold one
          simp only [hw, if_true]
        have hcl : (Lib.cut (Lib.cut (verB (Lib.cut t [10]).1) [32]).2.1 [64]).1.length ≤ 1000000 := by omega
        have hrl : (Lib.cut (Lib.cut (verB (Lib.cut t [10]).1) [32]).2.1 [64]).2.1.length ≤ 1000000 := by omega
        clear hc3
        generalize (Lib.cut (Lib.cut (verB (Lib.cut t [10]).1) [32]).2.1 [64]).1 = c at hone hcl ⊢
        generalize (Lib.cut (Lib.cut (verB (Lib.cut t [10]).1) [32]).2.1 [64]).2.1 = r at hone hrl ⊢
        have hll : (Lib.cut t [10]).1.length ≤ 1000000 := by omega
        clear hc1 hc2 hvl hv
        generalize (Lib.cut t [10]).1 = line at hone hll ⊢
        refine (implEncode_is (out.length : Int) (by omega) (by omega)).bind ?_
        rw [encB_eq (by omega) (by omega)]
        by_cases h5 : okRec c r = true
        · rw [if_pos h5]
          simp only [lit1, bs_app, bs_size, bs_toList]
          refine Ter.ifp trivial (Ter.ifp (by omega) ?_)
          by_cases h6 : lineB (out.length : Int) c r = line ++ [10]
          · rw [if_pos ⟨h5, h6⟩] at hone
            refine Ter.ifp h6 (Ter.ifp (by omega) (Ter.ifp (by rw [List.length_append, List.length_singleton]; omega) ?_))
            have e2 := congrArg List.length h6
            simp only [List.length_append, List.length_cons, List.length_nil] at e2
            have e3 := one_len (k := (out.length : Int)) (by omega) hone
            have e3' : t.length = l.length - a := by rw [← ht_]; simp
            have e4 : wrap64 ((a : Int) + wrap64 ((line.length : Int) + 1)) = ((a + (lineB (out.length : Int) c r).length : Nat) : Int) := by
              generalize (lineB (out.length : Int) c r).length = q at e2 e3
              rw [w64 (n := (line.length : Int) + 1) (by omega) (by omega), w64 (by omega) (by omega)]
              omega
            have e6 : a + (lineB (out.length : Int) c r).length ≤ l.length := by
              generalize (lineB (out.length : Int) c r).length = q at e2 e3 ⊢
              clear e4
              omega
            rw [e4]
            refine (ih (out ++ [(⟨bs c, bs r⟩ : S47)]) (en ++ [(a : Int)]) (a + (lineB (out.length : Int) c r).length) (by rw [List.length_append, List.length_singleton]; omega) (by rw [List.length_append, List.length_singleton]; omega) e6).eq ?_
            have e5 : ((out ++ [(⟨bs c, bs r⟩ : S47)]).length : Int) = (out.length : Int) + 1 := by simp
            rw [e5]
            simp only [recs, hone, List.map_cons, endsI_cons]
            rw [← List.drop_drop, ht_, List.append_assoc, List.append_assoc]
            rfl
          · rw [if_neg (fun e => h6 e.2)] at hone
            exact Ter.ifn h6 (hstop hone)
        · rw [if_neg (fun e => h5 e.1)] at hone
          rw [if_neg h5]
          exact Ter.ifn (by decide) (hstop hone)
      · have hone : one (out.length : Int) t = none := by unfold one; rw [if_neg hw]
        exact Ter.ifn hw (hstop hone)
  unfold impl_readRecords.f
  have := key 60 [] [] 0 rfl (by simp) (by omega)
  simpa using this
end Go.Proofs.YtaceoijcjkbgfaaDoor.P
namespace Go.Proofs.YtaceoijcjkbgfaaDoor.P
open Go.RowKit Go.Proofs.YtaceoijcjkbgfaaDoorW.PrintWords Go.Proofs.YtaceoijcjkbgfaaDoorW.PrintLast Go.Proofs.YtaceoijcjkbgfaaDoorW.PrintMore
set_option linter.unusedVariables false
set_option linter.unusedSimpArgs false

theorem index_is (x : Int) (l : List Int) (hl : l.length ≤ 1000) : ∃ r : Int, Ter (fun k => slices_Index_int_int.f k l x) r ∧ (0 ≤ r ↔ x ∈ l) := by
  have key := down_ (Q := fun i => ∃ r : Int, Ter (fun k => slices_Index_int_int.l0 k l x (l.length : Int) (i : Int)) r ∧ (0 ≤ r ↔ x ∈ l.drop i)) l.length
    ⟨-1, Ter.succ (by simp only [slices_Index_int_int.l0]; exact Ter.ifn (by omega) (Ter.ret _)), by rw [List.drop_length]; simp⟩
    (fun i hi ih => by
      have hd : l.drop i = l[i] :: l.drop (i + 1) := List.drop_eq_getElem_cons hi
      by_cases h : x = l[i]
      · refine ⟨(i : Int), Ter.succ ?_, ⟨fun _ => by rw [hd, ← h]; exact List.mem_cons_self .., fun _ => by omega⟩⟩
        simp only [slices_Index_int_int.l0]
        exact Ter.ifp (by omega) (Ter.ifp (by omega) (Ter.ifp (by omega) (Ter.ifp (by rw [rd_at hi]; exact h) (Ter.ret _))))
      · obtain ⟨r, h1, h2⟩ := ih
        refine ⟨r, Ter.succ ?_, by rw [hd, List.mem_cons]; constructor; (· intro e; exact .inr (h2.1 e)); (· rintro (e | e); exact absurd e h; exact h2.2 e)⟩
        simp only [slices_Index_int_int.l0]
        refine Ter.ifp (by omega) (Ter.ifp (by omega) (Ter.ifp (by omega) (Ter.ifn (by rw [rd_at hi]; exact h) ?_)))
        rw [w64s hi (by omega)]
        exact h1) 0 (by omega)
  obtain ⟨r, h1, h2⟩ := key
  exact ⟨r, h1, by simpa using h2⟩

theorem contains_is (x : Int) (l : List Int) (hl : l.length ≤ 1000) : Ter (fun k => slices_Contains_int_int.f k l x) (decide (x ∈ l)) := by
  obtain ⟨r, h1, h2⟩ := index_is x l hl
  unfold slices_Contains_int_int.f
  refine h1.bind ((Ter.ret _).eq ?_)
  rw [decide_eq_decide]
  exact h2

/-- A log is valid. -/
def validB (D P : Bs) (n : Int) : Bool := decide (D.length + P.length ≤ 30000) && (decide (lenR 0 (recs 60 0 (D ++ P)) = D.length + P.length) && (decide (lenR 0 (recs 60 0 D) = D.length) && decide (((recs 60 0 (D ++ P)).length : Int) = n)))

theorem Ter.some_ {α : Type} {a b : α} (h : a = b) : Ter (fun _ => some a) b := (Ter.ret _).eq h

theorem specValid_is {D P : Bs} (n : Int) (hD : D.length ≤ 1048576) (hP : P.length ≤ 1048576) : Ter (fun k => spec_l12Valid.f k (bs D) (bs P) n) (validB D P n) := by
  unfold spec_l12Valid.f validB
  simp only [bs_size, bs_app, w64 (n := (D.length : Int) + (P.length : Int)) (by omega) (by omega)]
  by_cases h1 : D.length + P.length ≤ 30000
  · refine Ter.ifn (by omega) (Ter.ifp (by omega) ?_)
    refine (l12Open_is (l := D ++ P) (by rw [List.length_append]; omega)).bind ((l12Open_is (l := D) (by omega)).bind ?_)
    simp only [h1, decide_true, Bool.true_and]
    by_cases h2 : lenR 0 (recs 60 0 (D ++ P)) = D.length + P.length
    · refine Ter.ifp (by rw [h2]; omega) ?_
      by_cases h3 : lenR 0 (recs 60 0 D) = D.length
      · refine Ter.ifp (by rw [h3]) (Ter.some_ ?_)
        simp only [h2, h3, decide_true, Bool.true_and, List.length_map]
        by_cases h4 : ((recs 60 0 (D ++ P)).length : Int) = n <;> simp [h4]
      · exact Ter.ifn (by omega) (Ter.some_ (by simp [h3]))
    · exact Ter.ifn (by omega) (Ter.some_ (by simp [h2]))
  · exact Ter.ifp (by omega) (Ter.some_ (by simp [h1]))

theorem endsI_len (l : List (Bs × Bs)) : (endsI 0 0 l).length = l.length + 1 := by unfold endsI; rw [List.length_map, endsR_len]

theorem endsI_last (l : List (Bs × Bs)) : rd (endsI 0 0 l) (l.length : Int) = (lenR 0 l : Int) := by
  unfold rd endsI
  rw [List.getD_eq_getElem?_getD, List.getElem?_map, Int.toNat_natCast, endsR_last]
  simp

theorem endsI_mem (l : List (Bs × Bs)) (n : Nat) : (n : Int) ∈ endsI 0 0 l ↔ n ∈ endsR 0 0 l := by
  unfold endsI
  rw [List.mem_map]
  constructor
  · rintro ⟨m, hm, e⟩
    obtain rfl : m = n := by omega
    exact hm
  · intro h
    exact ⟨n, h, rfl⟩

theorem implValid_is {D P : Bs} (n : Int) (hD : D.length ≤ 1048576) (hP : P.length ≤ 1048576) : Ter (fun k => impl_IsValidLog.f k (bs D) (bs P) n) (validB D P n) := by
  unfold impl_IsValidLog.f validB
  simp only [bs_size, bs_app, w64 (n := (D.length : Int) + (P.length : Int)) (by omega) (by omega)]
  by_cases h1 : D.length + P.length ≤ 30000
  · refine Ter.ifn (by omega) (Ter.ifp (by omega) ?_)
    refine (readRecords_is (l := D ++ P) (by rw [List.length_append]; omega)).bind ?_
    simp only [h1, decide_true, Bool.true_and, List.length_map, endsI_len, endsI_last]
    have hm := endsI_mem (recs 60 0 (D ++ P)) D.length
    have he := ends_iff 60 0 0 D P (by omega) (by omega)
    rw [Nat.zero_add] at he
    have hl := recs_len 60 0 (D ++ P)
    refine Ter.ifp (by omega) (Ter.ifp (by omega) ?_)
    by_cases h2 : lenR 0 (recs 60 0 (D ++ P)) = D.length + P.length
    · refine Ter.ifp (by rw [h2]; omega) ?_
      by_cases h4 : ((recs 60 0 (D ++ P)).length : Int) = n
      · refine Ter.ifp h4.symm ((contains_is _ _ (by rw [endsI_len]; omega)).bind (Ter.some_ ?_))
        simp only [h2, h4, decide_true, Bool.true_and, Bool.and_true, decide_eq_decide]
        exact hm.trans he
      · exact Ter.ifn (fun e => h4 e.symm) (Ter.some_ (by simp [h4]))
    · exact Ter.ifn (by omega) (Ter.some_ (by simp [h2]))
  · exact Ter.ifp (by omega) (Ter.some_ (by simp [h1]))

theorem szLog_is {c r : Bs} {a n : Int} (h0 : 0 ≤ a) (h1 : a ≤ 1048576) (hc : c.length ≤ maxLen) (hr : r.length ≤ maxLen) : ∃ t, laws_szLog.f (bs c) (bs r) n a = some t ∧ (t < 0 ∨ (0 ≤ t ∧ t ≤ a ∧ c.length ≤ 1048576 ∧ r.length ≤ 1048576)) := by
  rw [maxLen_] at hc hr
  unfold laws_szLog.f
  rw [bs_size, bs_size, w64 (n := a - (c.length : Int)) (by omega) (by omega)]
  by_cases h : a - (c.length : Int) < 0
  · rw [if_pos h]; exact ⟨_, rfl, .inl (by omega)⟩
  · rw [if_neg h, w64 (by omega) (by omega)]
    by_cases h2 : a - (c.length : Int) - (r.length : Int) < 0
    · rw [if_pos h2]; exact ⟨_, rfl, .inl (by omega)⟩
    · rw [if_neg h2]; exact ⟨_, rfl, .inr (by omega)⟩

theorem eqLog_is (c r : ByteArray) (n : Int) : laws_eqLog.f c r n c r n = some true := by
  unfold laws_eqLog.f
  rw [if_pos rfl, if_pos rfl, if_pos rfl]
end Go.Proofs.YtaceoijcjkbgfaaDoor.P
namespace Go.Proofs.YtaceoijcjkbgfaaDoor.P
open Go.RowKit Go.Proofs.YtaceoijcjkbgfaaDoorW.PrintWords Go.Proofs.YtaceoijcjkbgfaaDoorW.PrintLast Go.Proofs.YtaceoijcjkbgfaaDoorW.PrintMore
set_option linter.unusedVariables false
set_option linter.unusedSimpArgs false

theorem szDesk_is {l : List (List Int)} {ws : List S130} {c : Int} (hl : l.length ≤ maxLen ∧ ∀ z ∈ l, z.length ≤ maxLen) (hw : ws.length ≤ maxLen) : ∃ r, Ter (fun k => laws_szDesk.f k l ws c 1048576) r ∧ (r < 0 ∨ (0 ≤ r ∧ r ≤ 1048576 ∧ Small l ∧ (∀ z ∈ l, Small z) ∧ Small ws)) := by
  unfold laws_szDesk.f
  obtain ⟨r, hr, h⟩ := szMemory_is (a := 1048576) (by omega) (by omega) hl
  rcases h with h | ⟨h1, h2, h3, h4⟩
  · exact ⟨-1, hr.bind (Ter.ifp h (Ter.ret _)), .inl (by omega)⟩
  · obtain ⟨q, hq, h⟩ := szWindowS_is h1 h2 hw
    rcases h with h | ⟨h5, h6, h7⟩
    · exact ⟨-1, hr.bind (Ter.ifn (by omega) (Ter.bind (F := fun _ => laws_szWindowS.f ws r) (Ter.const hq) (Ter.ifp h (Ter.ret _)))), .inl (by omega)⟩
    · exact ⟨q, hr.bind (Ter.ifn (by omega) (Ter.bind (F := fun _ => laws_szWindowS.f ws r) (Ter.const hq) (Ter.ifn (by omega) (Ter.ret _)))), .inr ⟨by omega, by omega, h3, h4, h7⟩⟩

theorem specDesk_is {l : List (List Int)} {ws : List S126} {c : Int} (hl1 : l.length ≤ maxLen) (hl2 : ∀ z ∈ l, z.length ≤ maxLen) (hsw : Small ws) : Ter (fun k => spec_l12Good.f k l ws c) (decide (AreOn l ws ∧ ws.length ≤ 8 ∧ 0 ≤ c ∧ c ≤ 1000)) := by
  unfold spec_l12Good.f
  refine (l3Watched_is hl1 hl2 (by have := hsw.le; rw [maxLen_]; omega)).bind ?_
  by_cases h1 : AreOn l ws ∧ ws.length ≤ 12
  · refine Ter.ifp (by simpa using h1) ?_
    by_cases h2 : (ws.length : Int) ≤ 8
    · refine Ter.ifp h2 ?_
      rw [in_is]
      refine Ter.eq (Ter.ret _) ?_
      simp only [decide_eq_decide]
      constructor
      · intro h3; exact ⟨h1.1, by omega, h3⟩
      · intro h3; exact h3.2.2
    · refine Ter.ifn h2 (Ter.eq (Ter.ret _) ?_)
      symm
      simp only [decide_eq_false_iff_not]
      intro h3; have := h3.2.1; omega
  · refine Ter.ifn (by simpa using h1) (Ter.eq (Ter.ret _) ?_)
    symm
    simp only [decide_eq_false_iff_not]
    intro h3
    exact h1 ⟨h3.1, by have := h3.2.1; omega⟩

theorem implDesk_is {l : List (List Int)} {ws : List S126} {c : Int} (hl1 : l.length ≤ maxLen) (hws : ∀ w ∈ ws, wfW w) : Ter (fun k => impl_IsDesk.f k l ws c) (decide (AreOn l ws ∧ ws.length ≤ 8 ∧ 0 ≤ c ∧ c ≤ 1000)) := by
  unfold impl_IsDesk.f
  refine (areOn_is hl1 hws).bind ?_
  by_cases h1 : AreOn l ws
  · refine Ter.ifp (by simpa using h1) ?_
    by_cases h2 : (ws.length : Int) ≤ 8
    · refine Ter.ifp h2 ?_
      rw [within_is]
      refine Ter.eq (Ter.ret _) ?_
      simp only [decide_eq_decide]
      constructor
      · intro h3; exact ⟨h1, by omega, h3⟩
      · intro h3; exact h3.2.2
    · refine Ter.ifn h2 (Ter.eq (Ter.ret _) ?_)
      symm
      simp only [decide_eq_false_iff_not]
      intro h3; have := h3.2.1; omega
  · refine Ter.ifn (by simpa using h1) (Ter.eq (Ter.ret _) ?_)
    symm
    simp only [decide_eq_false_iff_not]
    exact fun h3 => h1 h3.1

theorem toLog_is (a b : ByteArray) (n : Int) : laws_toLog.f a b n = some (a, b, n) := rfl

theorem FnExactIsValidConsole.pure (l0 : List (List Int)) (ws0 : List S130) (c : Int) (a3 a4 : ByteArray) (a5 : Int) (W0 : l0.length ≤ maxLen ∧ ∀ z ∈ l0, z.length ≤ maxLen ∧ ∀ z2 ∈ z, (Lit.int .u8 z2).wf = true) (W1 : ws0.length ≤ maxLen ∧ ∀ z ∈ ws0, wf130 z) (W2 : (Lit.int .i64 c).wf = true) (W3 : a3.size ≤ maxLen) (W4 : a4.size ≤ maxLen) (W5 : (Lit.int .i64 a5).wf = true) : ∃ k, laws_FnExactIsValidConsole.f k l0 ws0 c a3 a4 a5 = some true := by
  obtain ⟨D, rfl⟩ : ∃ l, a3 = bs l := ⟨_, bs_of _⟩
  obtain ⟨P, rfl⟩ : ∃ l, a4 = bs l := ⟨_, bs_of _⟩
  rw [bs_size] at W3 W4
  have hl2 : ∀ z ∈ l0, z.length ≤ maxLen := fun z hz => (W0.2 z hz).1
  have key : Ter (fun k => laws_FnExactIsValidConsole.f k l0 ws0 c (bs D) (bs P) a5) true := by
    unfold laws_FnExactIsValidConsole.f
    obtain ⟨r, hr, h⟩ := szDesk_is (c := c) ⟨W0.1, hl2⟩ W1.1
    have hsz : ∃ t, Ter (fun k => laws_szConsole.f k l0 ws0 c (bs D) (bs P) a5 1048576) t ∧ (t < 0 ∨ (0 ≤ t ∧ Small l0 ∧ (∀ z ∈ l0, Small z) ∧ Small ws0 ∧ D.length ≤ 1048576 ∧ P.length ≤ 1048576)) := by
      unfold laws_szConsole.f
      rcases h with h | ⟨h1, h2, h3, h4, h5⟩
      · exact ⟨-1, hr.bind (Ter.ifp h (Ter.ret _)), .inl (by omega)⟩
      · obtain ⟨t, ht, h⟩ := szLog_is (c := D) (r := P) (a := r) (n := a5) h1 h2 W3 W4
        rcases h with h | ⟨h6, h7, h8, h9⟩
        · exact ⟨-1, hr.bind (Ter.ifn (by omega) (Ter.bind (Ter.const ht) (Ter.ifp h (Ter.ret _)))), .inl (by omega)⟩
        · exact ⟨t, hr.bind (Ter.ifn (by omega) (Ter.bind (Ter.const ht) (Ter.ifn (by omega) (Ter.ret _)))), .inr ⟨h6, h3, h4, h5, h8, h9⟩⟩
    obtain ⟨t, ht, h⟩ := hsz
    refine ht.bind ?_
    rcases h with h | ⟨h1, hs1, hs2, hs3, hD, hP⟩
    · exact Ter.ifp h (Ter.ret _)
    · refine Ter.ifn (by omega) ?_
      have hws : ∀ w ∈ ws0.map winOf, wfW w := fun w hw => by
        obtain ⟨x, hx, rfl⟩ := List.mem_map.1 hw
        exact wfW_of (W1.2 x hx)
      have hsw : Small (ws0.map winOf) := by unfold Small; simpa using hs3.le
      have hto : Ter (fun k => laws_toConsole.f k l0 ws0 c (bs D) (bs P) a5) (l0, ws0.map winOf, c, bs D, bs P, a5) := by
        have hde : Ter (fun k => laws_toDesk.f k l0 ws0 c) (l0, ws0.map winOf, c) := by
          unfold laws_toDesk.f
          exact (toMemory_is hs1 hs2).bind ((toWindowS_is hs3).bind (Ter.ret _))
        unfold laws_toConsole.f
        exact hde.bind (Ter.bind (Ter.const (toLog_is _ _ _)) (Ter.ret _))
      generalize ws0.map winOf = ws at hws hsw hto
      have hsd := specDesk_is (c := c) W0.1 hl2 hsw
      have hid := implDesk_is (c := c) W0.1 hws
      have hsl := specValid_is a5 hD hP
      have hil := implValid_is a5 hD hP
      generalize decide (AreOn l0 ws ∧ ws.length ≤ 8 ∧ 0 ≤ c ∧ c ≤ 1000) = b1 at hsd hid
      generalize validB D P a5 = b2 at hsl hil
      have hs : Ter (fun k => spec_IsValidConsole.f k l0 ws c (bs D) (bs P) a5) (b1 && b2) := by
        unfold spec_IsValidConsole.f
        refine hsd.bind ?_
        cases b1 with
        | true => exact Ter.ifp rfl (hsl.bind (Ter.some_ (by simp)))
        | false => exact Ter.ifn (by decide) (Ter.some_ rfl)
      have hi : Ter (fun k => impl_IsValidConsole.f k l0 ws c (bs D) (bs P) a5) (b1 && b2) := by
        unfold impl_IsValidConsole.f
        refine hid.bind ?_
        cases b1 with
        | true => exact Ter.ifp rfl (hil.bind (Ter.some_ (by simp)))
        | false => exact Ter.ifn (by decide) (Ter.some_ rfl)
      generalize (b1 && b2) = b at hs hi
      have heq : Ter (fun k => laws_eqConsole.f k l0 ws c (bs D) (bs P) a5 l0 ws c (bs D) (bs P) a5) true := by
        have hde : Ter (fun k => laws_eqDesk.f k l0 ws c l0 ws c) true := by
          unfold laws_eqDesk.f
          exact (eqMemory_is ⟨W0.1, hl2⟩).bind (Ter.ifp rfl ((eqWindowS_is (by have := hsw.le; rw [maxLen_]; omega)).bind (Ter.ifp rfl (Ter.ifp rfl (Ter.ret _)))))
        unfold laws_eqConsole.f
        exact hde.bind (Ter.ifp rfl (Ter.bind (Ter.const (eqLog_is _ _ _)) (Ter.ifp rfl (Ter.ret _))))
      exact hto.bind (hs.bind (hto.bind (hi.bind (Ter.ifn (by simp) (hto.bind (heq.bind (Ter.ifp rfl (Ter.ret _))))))))
  obtain ⟨K, h⟩ := key
  exact ⟨K, h K (Nat.le_refl _)⟩
end Go.Proofs.YtaceoijcjkbgfaaDoor.P
namespace Go.Proofs.YtaceoijcjkbgfaaDoor.fnExactIsValidConsole
open Go.ChangeShapes Go.WideShapes Go.ChangeAt Go.RowKit
open Go.ChangeMaps (open_string shut_string)
open Go.Proofs.YtaceoijcjkbgfaaDoor.P Go.Proofs.YtaceoijcjkbgfaaDoor.laidRow Go.Proofs.YtaceoijcjkbgfaaDoorW.PrintWords Go.Proofs.YtaceoijcjkbgfaaDoorW.PrintLast Go.Proofs.YtaceoijcjkbgfaaDoorW.PrintMore
set_option linter.unusedVariables false

theorem call (A0_0 : Option Addr) (c0_0 : Nat) (l0_0 : List (List Int)) (A0_1 : Option Addr) (c0_1 : Nat) (l0_1 : List S130) (a0_2 : Int) (a0_3 : ByteArray) (a0_4 : ByteArray) (a0_5 : Int) (w : World) (h_0 : Kd.C (Kd.slice 5 (Kd.int .u8)) w A0_0 l0_0.length l0_0) (h_1 : l0_0.length ≤ c0_0) (h_2 : Kd.C k130 w A0_1 l0_1.length l0_1) (h_3 : l0_1.length ≤ c0_1) (ht : TabOK w) (W_0 : (l0_0.length ≤ maxLen ∧ ∀ z ∈ l0_0, (z.length ≤ maxLen ∧ ∀ z2 ∈ z, (Lit.int .u8 z2).wf = true))) (W_1 : (l0_1.length ≤ maxLen ∧ ∀ z ∈ l0_1, wf130 z)) (W_2 : (Lit.int .i64 a0_2).wf = true) (W_3 : a0_3.size ≤ maxLen) (W_4 : a0_4.size ≤ maxLen) (W_5 : (Lit.int .i64 a0_5).wf = true) :
    Calls Tryd.prog 3 #[.agg #[.slice A0_0 l0_0.length c0_0, .slice A0_1 l0_1.length c0_1, .int .i64 a0_2, .string a0_3, .string a0_4, .int .i64 a0_5]] w fun e w' => e = .returned (.bool true) ∧ Below w.heap.size w w' := by
  obtain ⟨k, hk⟩ := P.FnExactIsValidConsole.pure l0_0 l0_1 a0_2 a0_3 a0_4 a0_5 W_0 W_1 W_2 W_3 W_4 W_5
  exact P.laws_FnExactIsValidConsole.calls k A0_0 c0_0 l0_0 A0_1 c0_1 l0_1 a0_2 a0_3 a0_4 a0_5 w h_0 h_1 h_2 h_3 ht hk

set_option maxRecDepth 100000 in
theorem contract (H : Type) (enc : TypeId × Value → H) (W : World) (base : Nat) (args : Array Value) (ds gs : List (DataW H)) (before : List MemPlace)
    (hval : ∀ (j : Nat) t v, Tryd.f3.params[j]? = some t → args[j]? = some v → Value.okWide Tryd.prog W .any base t v)
    (hW : DataW.Whole enc Tryd.prog Tryd.f3.params.toList Rows.fnExactIsValidConsoleSpec.vars false W args.toList ds gs before) (hL : laidMetH Tryd.prog Rows.fnExactIsValidConsoleRow.laid W) (hsh : W.ShapedOpen Tryd.prog) :
    Calls Tryd.prog 3 args W fun e W' => ∃ v, e = .returned v ∧ Rows.fnExactIsValidConsoleSpec.post enc Tryd.prog Tryd.f3 false true false false W args v W' := by
  have hW' := hW
  obtain ⟨p, q, hA0, hV, rfl, hfz, hnd⟩ := hW
  have hA : DataW.TrodAll enc Tryd.prog W 0 (fun _ => true) true Tryd.f3.params.toList args.toList ds p := hA0
  rw [Tryd.params3] at hA hval
  obtain ⟨v0, vs0, d0, ds0, p0, q0, hargs, rfl, rfl, h0, r0⟩ := trodAll_cons hA
  obtain ⟨rfl, rfl, rfl⟩ := trodAll_nil r0
  obtain rfl : args = #[v0] := by cases args; simp_all
  obtain ⟨rfl, rfl⟩ := trodVars_none hV
  obtain ⟨cs0, rfl, _⟩ := okWide_struct Tryd.underlying31 (hval 0 31 v0 rfl rfl)
  have k0 := h0
  have lt0 : ∀ x ∈ p0, x.block < W.heap.size := by obtain ⟨m, hm⟩ := k0; exact DataW.trod_lt m _ _ _ hm
  obtain ⟨A0_0, c0_0, l0_0, A0_1, c0_1, l0_1, a0_2, a0_3, a0_4, a0_5, e0, HR0_0, HC0_0, W0_0, HR0_1, HC0_1, W0_1, W0_2, W0_3, W0_4, W0_5, _⟩ : ∃ (A0_0 : Option Addr) (c0_0 : Nat) (l0_0 : List (List Int)) (A0_1 : Option Addr) (c0_1 : Nat) (l0_1 : List S130) (a0_2 : Int) (a0_3 : ByteArray) (a0_4 : ByteArray) (a0_5 : Int), cs0 = #[.slice A0_0 l0_0.length c0_0, .slice A0_1 l0_1.length c0_1, .int .i64 a0_2, .string a0_3, .string a0_4, .int .i64 a0_5] ∧ Kd.C (Kd.slice 5 (Kd.int .u8)) W A0_0 l0_0.length l0_0 ∧ l0_0.length ≤ c0_0 ∧ (l0_0.length ≤ maxLen ∧ ∀ z ∈ l0_0, (z.length ≤ maxLen ∧ ∀ z2 ∈ z, (Lit.int .u8 z2).wf = true)) ∧ Kd.C k130 W A0_1 l0_1.length l0_1 ∧ l0_1.length ≤ c0_1 ∧ (l0_1.length ≤ maxLen ∧ ∀ z ∈ l0_1, wf130 z) ∧ (Lit.int .i64 a0_2).wf = true ∧ a0_3.size ≤ maxLen ∧ a0_4.size ≤ maxLen ∧ (Lit.int .i64 a0_5).wf = true ∧ True := by
    obtain ⟨fuel, hf⟩ := h0
    obtain ⟨A0_0, c0_0, l0_0, A0_1, c0_1, l0_1, a0_2, a0_3, a0_4, a0_5, e_, r_⟩ := P.cells_31 hf
    refine ⟨A0_0, c0_0, l0_0, A0_1, c0_1, l0_1, a0_2, a0_3, a0_4, a0_5, ?_, r_⟩
    exact Array.toList_inj.1 e_
  subst e0
  clear hA0 hval
  refine (call A0_0 c0_0 l0_0 A0_1 c0_1 l0_1 a0_2 a0_3 a0_4 a0_5 W HR0_0 HC0_0 HR0_1 HC0_1 (tabOK hL hsh) W0_0 W0_1 W0_2 W0_3 W0_4 W0_5).mono fun e W' ⟨he, bel⟩ => ?_
  subst he
  exact ⟨_, rfl, _, _, _, [], _, [], hW', trodAll_mk1 (shut_bool Tryd.underlying4 _), (trodAll_cons_mk (Below.trod laidOut (by kernel_rfl) (of_decide_eq_true (by kernel_rfl)) k0 bel lt0) trodAll_mk0), rfl, bel.frame _, fun h => by cases h⟩

set_option maxRecDepth 100000 in
theorem laid_met (os : Os) : laidMet Tryd.prog Rows.fnExactIsValidConsoleRow.laid ((laidWorld os).forCall (fun _ _ => 0) ⟨#[], #[.agg #[.slice none 0 0, .slice none 0 0, .int .i64 0, .string ByteArray.empty, .string ByteArray.empty, .int .i64 0]], []⟩).memory :=
  laidMet_of_run' 8 (by kernel_rfl) (by kernel_rfl)

set_option maxRecDepth 100000 in
theorem reads (os : Os) {H : Type} (enc : TypeId × Value → H) : ∃ places, DataW.whole enc Tryd.prog ((laidWorld os).forCall (fun _ _ => 0) ⟨#[], #[.agg #[.slice none 0 0, .slice none 0 0, .int .i64 0, .string ByteArray.empty, .string ByteArray.empty, .int .i64 0]], []⟩).memory Tryd.f3.params.toList Rows.fnExactIsValidConsoleSpec.vars false (#[.agg #[.slice none 0 0, .slice none 0 0, .int .i64 0, .string ByteArray.empty, .string ByteArray.empty, .int .i64 0]] : Array Value).toList 8 = some ([.agg [.agg [.agg [.nil], .nil, .lit (.int .i64 0)], .agg [.lit (.string []), .lit (.string []), .lit (.int .i64 0)]]], [], places) :=
  ⟨[], by kernel_rfl⟩

set_option maxRecDepth 100000 in
set_option maxHeartbeats 2000000 in
theorem lifted (os : Os) (started : os.Started) (H : Type) (enc : TypeId × Value → H) (F : Stop.Interp) :
    ReturnsInHanded {} Tryd.checked os 3 .any ((OpenSpec.ofChange Rows.fnExactIsValidConsoleSpec).preRow enc Tryd.prog Tryd.f3 Rows.fnExactIsValidConsoleRow.domain false Rows.fnExactIsValidConsoleRow.laid) (((OpenSpec.ofChange Rows.fnExactIsValidConsoleSpec).at F).post enc Tryd.prog Tryd.f3 false true false false) := by
  obtain ⟨places, hx⟩ := reads os enc
  refine returnsInHanded_of_row (C := Tryd.checked) (s := OpenSpec.ofChange Rows.fnExactIsValidConsoleSpec) own started (by kernel_rfl) Tryd.func3
    (witness_row_at (enc := enc) (C := Tryd.checked) false (laidWorld os) #[.agg #[.slice none 0 0, .slice none 0 0, .int .i64 0, .string ByteArray.empty, .string ByteArray.empty, .int .i64 0]] rfl (by kernel_rfl) (by kernel_rfl) (by kernel_rfl)
      (OpenSpec.preRow_of_cond 8 hx (by kernel_rfl) (fun k hk => by cases hk) (by kernel_rfl) (laid_met os))) ?_
  intro W base args ds gs before hval hW _ _ _ hL hsh _
  exact contract H enc W base args ds gs before hval hW hL hsh

set_option maxRecDepth 100000 in
theorem cl1 : Tryd.pinned.checked.prog.funcNamed Rows.fnExactIsValidConsoleRow.func = some 3 := by kernel_rfl

theorem cl2 : joinedFacts Tryd.pinned.checked.prog 3 Tryd.f3 Rows.fnExactIsValidConsoleSpec Rows.fnExactIsValidConsoleRow = true := by kernel_rfl

theorem cl3 : Tryd.f3.isInstance Tryd.pinned.checked.prog Rows.fnExactIsValidConsoleRow.origin Rows.fnExactIsValidConsoleRow.targs := of_decide_eq_true (by kernel_rfl)

theorem cl4 : Tryd.f3.isWrapper Tryd.pinned.checked.prog Rows.fnExactIsValidConsoleRow.wrapper Rows.fnExactIsValidConsoleRow.mainSum := (by unfold Func.isWrapper; first | (rw [if_pos (by decide +kernel)]; kernel_rfl) | (rw [if_neg (by decide +kernel)]; exact ⟨rfl, rfl⟩))

theorem said : Rows.FnExactIsValidConsoleSaid :=
  OpenClaim.holds_of_cond 3 Tryd.f3 rfl rfl rfl rfl rfl rfl rfl ⟨rfl, rfl, rfl, rfl, rfl⟩ rfl rfl rfl rfl rfl cl1 Tryd.func3 cl2 cl3 cl4
    (fun os started H enc _ F => by rw [OpenClaim.pre_eq_preRow]; exact lifted os started H enc F)

theorem plain (f : FuncId) (fn : Func) (hf : Tryd.pinned.checked.prog.funcNamed Rows.fnExactIsValidConsoleRow.func = some f) (hfn : Tryd.pinned.checked.prog.funcs[f]? = some fn) :
    false = Tryd.pinned.checked.prog.looks [] ∧ ∀ (j : Nat) t, fn.params[j]? = some t → Tryd.pinned.checked.prog.wantsStandIn t = false := by
  obtain rfl : f = 3 := Option.some.inj (cl1.symm.trans hf) |>.symm
  obtain rfl : fn = Tryd.f3 := (Option.some.inj (Tryd.func3.symm.trans hfn)).symm
  refine ⟨by kernel_rfl, fun j t ht => ?_⟩
  rw [Tryd.params3] at ht
  have hm := Array.mem_of_getElem? ht
  obtain rfl : t = 31 := by simpa using hm
  exact (show Tryd.prog.wantsStandIn 31 = false by kernel_rfl)

theorem card : Rows.FnExactIsValidConsoleCardSaid :=
  Claim7.holds_tied_plain_at .later [] _ _ _ _ said (fun _ h => by cases h) (by kernel_rfl) (fun _ h => by cases h) fnExactIsValidConsole_row_tie rfl ⟨rfl, rfl⟩ (by kernel_rfl) rfl plain (by kernel_rfl)
#print axioms card
end Go.Proofs.YtaceoijcjkbgfaaDoor.fnExactIsValidConsole
namespace Go.Proofs.YtaceoijcjkbgfaaDoor

/-- The card, under a short name, for the claim. -/
theorem fnExactIsValidConsole_holds : Rows.FnExactIsValidConsoleCardSaid := fnExactIsValidConsole.card
end Go.Proofs.YtaceoijcjkbgfaaDoor
