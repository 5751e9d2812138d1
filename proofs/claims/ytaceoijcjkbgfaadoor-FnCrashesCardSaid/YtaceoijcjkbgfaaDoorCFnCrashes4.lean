/- This text proves the given statement of the law FnCrashes: for every input the law returns true and its arguments read afterwards as before. Conditions: those of the given row and no other. -/
import Derived.Test.YtaceoijcjkbgfaaDoorCFnCrashes3
import Derived.Lib.EndianBits
import Derived.Test.YtaceoijcjkbgfaaDoorRows
import Derived.Test.YtaceoijcjkbgfaaDoorCards
import Derived.Test.YtaceoijcjkbgfaaDoorTie
import Derived.WalkKit
import Derived.ProofKit
import Derived.OpenShut
import Derived.ShutString
import Derived.ChangeOld
import Derived.Below
import Derived.SizedLaws
import Derived.Deep.DeepHandedRow
import Derived.Lib.LaidTab
namespace Go.Proofs.YtaceoijcjkbgfaaDoor.P
open Go.RowKit Go.Proofs.YtaceoijcjkbgfaaDoorW.PrintWords Go.Proofs.YtaceoijcjkbgfaaDoorW.PrintLast Go.Proofs.YtaceoijcjkbgfaaDoorW.PrintMore
attribute [local go_sem] max2_int min2_int max_two min_two max_three min_three max_four min_four   -- for this text's walks alone
set_option linter.unusedVariables false
set_option linter.unusedSimpArgs false
attribute [local go_sem high] eqA38

mutual
def laws_FnCrashes.j0 : Nat → Int → Bool → ByteArray → Bool → Bool → ByteArray → ByteArray → Int → Option (Bool)
  | 0, _, _, _, _, _, _, _, _ => none
  | k + 1, x4, x5, x6, x7, x83, x752000, x752001, x752002 => if x83 = true then (some false) else (if x7 = true then ((impl_RecoverLog.f k x6).bind fun bt772 => (if bt772.2.2.2.2 = true then ((impl_IsValidLog.f k bt772.1 bt772.2.1 bt772.2.2.1).bind fun t778 => (if t778 = true then (if bt772.2.2.2.1 < (x752000.size : Int) then (laws_FnCrashes.j1 k x4 x5 true x752000 x752001 x752002 bt772.1 bt772.2.1 bt772.2.2.1) else (laws_FnCrashes.j1 k x4 x5 ((bt772.1.size : Int) != bt772.2.2.2.1) x752000 x752001 x752002 bt772.1 bt772.2.1 bt772.2.2.1)) else (laws_FnCrashes.j1 k x4 x5 true x752000 x752001 x752002 bt772.1 bt772.2.1 bt772.2.2.1))) else (laws_FnCrashes.j1 k x4 x5 true x752000 x752001 x752002 bt772.1 bt772.2.1 bt772.2.2.1))) else (some true))
def laws_FnCrashes.j1 : Nat → Int → Bool → Bool → ByteArray → ByteArray → Int → ByteArray → ByteArray → Int → Option (Bool)
  | 0, _, _, _, _, _, _, _, _, _ => none
  | k + 1, x4, x5, x112, x752000, x752001, x752002, x778000, x778001, x778002 => if x112 = true then (some false) else ((impl_LogRecords.f k x752000 x752001 x752002).bind fun bt779 => ((impl_LogRecords.f k x778000 x778001 x778002).bind fun bt783 => (if (bt783.1.length : Int) ≤ (bt779.1.length : Int) then (if 0 ≤ (bt783.1.length : Int) then ((laws_vRecords.f k bt783.1 (bt779.1.take ((bt783.1.length : Int) : Int).toNat)).bind fun t791 => (if t791 = true then (if x5 = true then (some true) else (if x4 < (x752001.size : Int) then (some true) else (some ((bt783.1.length : Int) == (bt779.1.length : Int))))) else (some false))) else (none)) else (some false))))
end

def laws_FnCrashes.f (k : Nat) (l0 : List Int) : Option (Bool) := (laws_vBig.f l0).bind fun t745 => (if t745 = true then (some true) else ((spec_DrawCrashLog.f k l0).bind fun bt746 => ((impl_CrashLog.f k bt746.1 bt746.2.1 bt746.2.2.1 bt746.2.2.2.1 bt746.2.2.2.2).bind fun bt752 => ((spec_CrashLog.f k bt746.1 bt746.2.1 bt746.2.2.1 bt746.2.2.2.1 bt746.2.2.2.2).bind fun bt754 => ((laws_vCut.f l0 1).bind fun t756 => ((spec_DrawRecoverLog.f k t756).bind fun t759 => ((impl_RecoverLog.f k t759).bind fun bt760 => ((spec_RecoverLog.f k t759).bind fun bt766 => (if bt752.1.toList = bt754.1.toList then (if (bt752.2 != bt754.2) = true then (laws_FnCrashes.j0 k bt746.2.2.2.1 bt746.2.2.2.2 bt752.1 bt752.2 true bt746.1 bt746.2.1 bt746.2.2.1) else (if (!(bt760.1.toList == bt766.1.toList) || (!(bt760.2.1.toList == bt766.2.1.toList) || (!(bt760.2.2.1 == bt766.2.2.1)))) = true then (laws_FnCrashes.j0 k bt746.2.2.2.1 bt746.2.2.2.2 bt752.1 bt752.2 true bt746.1 bt746.2.1 bt746.2.2.1) else (if bt760.2.2.2.1 = bt766.2.2.2.1 then (laws_FnCrashes.j0 k bt746.2.2.2.1 bt746.2.2.2.2 bt752.1 bt752.2 (bt760.2.2.2.2 != bt766.2.2.2.2) bt746.1 bt746.2.1 bt746.2.2.1) else (laws_FnCrashes.j0 k bt746.2.2.2.1 bt746.2.2.2.2 bt752.1 bt752.2 true bt746.1 bt746.2.1 bt746.2.2.1)))) else (laws_FnCrashes.j0 k bt746.2.2.2.1 bt746.2.2.2.2 bt752.1 bt752.2 true bt746.1 bt746.2.1 bt746.2.2.1))))))))))

theorem bset_ {g i : Nat} {w w1 : World} {x : Value} (h : Below w.heap.size w w1) (hg : Aside0 (w.heap.size ≤ g)) : Below w.heap.size w (w1.setCell ⟨g, i, none⟩ x) := below_set h hg.out

theorem laws_FnCrashes.j0_no (k : Nat) (x4 : Int) (x5 : Bool) (x6 : ByteArray) (x7 : Bool) (x752000 : ByteArray) (x752001 : ByteArray) (x752002 : Int) : laws_FnCrashes.j0 k x4 x5 x6 x7 true x752000 x752001 x752002 ≠ some true := by
  cases k <;> simp [laws_FnCrashes.j0]

theorem laws_FnCrashes.j1_no (k : Nat) (x4 : Int) (x5 : Bool) (x752000 : ByteArray) (x752001 : ByteArray) (x752002 : Int) (x778000 : ByteArray) (x778001 : ByteArray) (x778002 : Int) : laws_FnCrashes.j1 k x4 x5 true x752000 x752001 x752002 x778000 x778001 x778002 ≠ some true := by
  cases k <;> simp [laws_FnCrashes.j1]

set_option maxHeartbeats 8000000 in
set_option maxRecDepth 100000 in
theorem laws_FnCrashes.calls (k : Nat) (A0 : Option Addr) (c0 : Nat) (l0 : List Int) (r : Bool) (w : World) (hr0 : Kd.C (Kd.int .u8) w A0 l0.length l0) (hc0 : l0.length ≤ c0) (ht : TabOK w) (h : laws_FnCrashes.f k l0 = some r) (hyes : r = true) :
    Calls Tryd.prog 5 #[.slice A0 l0.length c0] w fun e w' => e = .returned (.bool r) ∧ Below w.heap.size w w' := by
  have hu38 := Tryd.underlying38
  have HT := Aside0.mk ht
  clear ht
  have HR0 := Aside0.mk hr0
  have HC0 := Aside0.mk hc0
  clear hr0 hc0
  have HB := Aside0.mk (Below.refl w.heap.size w)
  have H : ((laws_vBig.f l0).bind fun t745 => (if t745 = true then (some true) else ((spec_DrawCrashLog.f k l0).bind fun bt746 => ((impl_CrashLog.f k bt746.1 bt746.2.1 bt746.2.2.1 bt746.2.2.2.1 bt746.2.2.2.2).bind fun bt752 => ((spec_CrashLog.f k bt746.1 bt746.2.1 bt746.2.2.1 bt746.2.2.2.1 bt746.2.2.2.2).bind fun bt754 => ((laws_vCut.f l0 1).bind fun t756 => ((spec_DrawRecoverLog.f k t756).bind fun t759 => ((impl_RecoverLog.f k t759).bind fun bt760 => ((spec_RecoverLog.f k t759).bind fun bt766 => (if bt752.1.toList = bt754.1.toList then (if (bt752.2 != bt754.2) = true then (laws_FnCrashes.j0 k bt746.2.2.2.1 bt746.2.2.2.2 bt752.1 bt752.2 true bt746.1 bt746.2.1 bt746.2.2.1) else (if (!(bt760.1.toList == bt766.1.toList) || (!(bt760.2.1.toList == bt766.2.1.toList) || (!(bt760.2.2.1 == bt766.2.2.1)))) = true then (laws_FnCrashes.j0 k bt746.2.2.2.1 bt746.2.2.2.2 bt752.1 bt752.2 true bt746.1 bt746.2.1 bt746.2.2.1) else (if bt760.2.2.2.1 = bt766.2.2.2.1 then (laws_FnCrashes.j0 k bt746.2.2.2.1 bt746.2.2.2.2 bt752.1 bt752.2 (bt760.2.2.2.2 != bt766.2.2.2.2) bt746.1 bt746.2.1 bt746.2.2.1) else (laws_FnCrashes.j0 k bt746.2.2.2.1 bt746.2.2.2.2 bt752.1 bt752.2 true bt746.1 bt746.2.1 bt746.2.2.1)))) else (laws_FnCrashes.j0 k bt746.2.2.2.1 bt746.2.2.2.2 bt752.1 bt752.2 true bt746.1 bt746.2.1 bt746.2.2.1))))))))))) = some r := h
  clear h
  replace H := Option.bind_eq_some_iff.mp H
  obtain ⟨t745, A20, H⟩ := H
  replace H : (if t745 = true then (some true) else ((spec_DrawCrashLog.f k l0).bind fun bt746 => ((impl_CrashLog.f k bt746.1 bt746.2.1 bt746.2.2.1 bt746.2.2.2.1 bt746.2.2.2.2).bind fun bt752 => ((spec_CrashLog.f k bt746.1 bt746.2.1 bt746.2.2.1 bt746.2.2.2.1 bt746.2.2.2.2).bind fun bt754 => ((laws_vCut.f l0 1).bind fun t756 => ((spec_DrawRecoverLog.f k t756).bind fun t759 => ((impl_RecoverLog.f k t759).bind fun bt760 => ((spec_RecoverLog.f k t759).bind fun bt766 => (if bt752.1.toList = bt754.1.toList then (if (bt752.2 != bt754.2) = true then (laws_FnCrashes.j0 k bt746.2.2.2.1 bt746.2.2.2.2 bt752.1 bt752.2 true bt746.1 bt746.2.1 bt746.2.2.1) else (if (!(bt760.1.toList == bt766.1.toList) || (!(bt760.2.1.toList == bt766.2.1.toList) || (!(bt760.2.2.1 == bt766.2.2.1)))) = true then (laws_FnCrashes.j0 k bt746.2.2.2.1 bt746.2.2.2.2 bt752.1 bt752.2 true bt746.1 bt746.2.1 bt746.2.2.1) else (if bt760.2.2.2.1 = bt766.2.2.2.1 then (laws_FnCrashes.j0 k bt746.2.2.2.1 bt746.2.2.2.2 bt752.1 bt752.2 (bt760.2.2.2.2 != bt766.2.2.2.2) bt746.1 bt746.2.1 bt746.2.2.1) else (laws_FnCrashes.j0 k bt746.2.2.2.1 bt746.2.2.2.2 bt752.1 bt752.2 true bt746.1 bt746.2.1 bt746.2.2.1)))) else (laws_FnCrashes.j0 k bt746.2.2.2.1 bt746.2.2.2.2 bt752.1 bt752.2 true bt746.1 bt746.2.1 bt746.2.2.1)))))))))) = some r := H
  have A2 := Aside0.mk A20
  clear A20
  by_cases c3 : t745 = true
  · subst c3
    have H1 : (some true) = some r := by rw [if_pos rfl] at H; exact H
    clear H
    have H := H1
    clear H1
    obtain rfl := Option.some.inj H
    go_enter Tryd.func5, Tryd.ntmps5
    go_wp2_with (first | ((with_reducible refine gate_callee (f := 11) rfl ?_); refine goesL_ (some 25) rfl rfl Tryd.func11 (by kernel_rfl) rfl #[.slice A0 l0.length c0] rfl (by (try simp only [List.map_toArray, List.map_cons, List.map_nil]); first | done | rfl | (simp only [List.length_drop, List.length_take]; rfl)) ?_; (with_reducible refine (laws_vBig.calls _ _ l0 true _ ?side1 ?side2 A2.out).mono ?_); (case side1 => repeat (first | exact HR0.out | (with_reducible refine Kd.C_alloc ?_ _) | (with_reducible refine Kd.C_drewN ?_ _) | (with_reducible refine Kd.C_drew ?_))); (case side2 => exact HC0.out); rintro e w' ⟨rfl, ⟨nd, rfl⟩⟩; refine ⟨_, rfl, ?_⟩))
    go_ret
    exact ⟨by first | rfl | (simp [errW_none, errW_some] <;> rfl) | (simp [*, errW_none, errW_some] <;> rfl), by repeat (first | (with_reducible first | exact HB.out | apply below_alloc | apply pw_below_drewN | apply below_drew1) | exact HB.out)⟩
  · replace c3 := Bool.eq_false_iff.mpr c3
    subst c3
    have H1 : ((spec_DrawCrashLog.f k l0).bind fun bt746 => ((impl_CrashLog.f k bt746.1 bt746.2.1 bt746.2.2.1 bt746.2.2.2.1 bt746.2.2.2.2).bind fun bt752 => ((spec_CrashLog.f k bt746.1 bt746.2.1 bt746.2.2.1 bt746.2.2.2.1 bt746.2.2.2.2).bind fun bt754 => ((laws_vCut.f l0 1).bind fun t756 => ((spec_DrawRecoverLog.f k t756).bind fun t759 => ((impl_RecoverLog.f k t759).bind fun bt760 => ((spec_RecoverLog.f k t759).bind fun bt766 => (if bt752.1.toList = bt754.1.toList then (if (bt752.2 != bt754.2) = true then (laws_FnCrashes.j0 k bt746.2.2.2.1 bt746.2.2.2.2 bt752.1 bt752.2 true bt746.1 bt746.2.1 bt746.2.2.1) else (if (!(bt760.1.toList == bt766.1.toList) || (!(bt760.2.1.toList == bt766.2.1.toList) || (!(bt760.2.2.1 == bt766.2.2.1)))) = true then (laws_FnCrashes.j0 k bt746.2.2.2.1 bt746.2.2.2.2 bt752.1 bt752.2 true bt746.1 bt746.2.1 bt746.2.2.1) else (if bt760.2.2.2.1 = bt766.2.2.2.1 then (laws_FnCrashes.j0 k bt746.2.2.2.1 bt746.2.2.2.2 bt752.1 bt752.2 (bt760.2.2.2.2 != bt766.2.2.2.2) bt746.1 bt746.2.1 bt746.2.2.1) else (laws_FnCrashes.j0 k bt746.2.2.2.1 bt746.2.2.2.2 bt752.1 bt752.2 true bt746.1 bt746.2.1 bt746.2.2.1)))) else (laws_FnCrashes.j0 k bt746.2.2.2.1 bt746.2.2.2.2 bt752.1 bt752.2 true bt746.1 bt746.2.1 bt746.2.2.1))))))))) = some r := by rw [if_neg (show ¬ (false = true) by decide)] at H; exact H
    clear H
    have H := H1
    clear H1
    replace H := Option.bind_eq_some_iff.mp H
    obtain ⟨⟨t746, t747, t748, t749, t750⟩, A40, H⟩ := H
    replace H : ((impl_CrashLog.f k t746 t747 t748 t749 t750).bind fun bt752 => ((spec_CrashLog.f k t746 t747 t748 t749 t750).bind fun bt754 => ((laws_vCut.f l0 1).bind fun t756 => ((spec_DrawRecoverLog.f k t756).bind fun t759 => ((impl_RecoverLog.f k t759).bind fun bt760 => ((spec_RecoverLog.f k t759).bind fun bt766 => (if bt752.1.toList = bt754.1.toList then (if (bt752.2 != bt754.2) = true then (laws_FnCrashes.j0 k t749 t750 bt752.1 bt752.2 true t746 t747 t748) else (if (!(bt760.1.toList == bt766.1.toList) || (!(bt760.2.1.toList == bt766.2.1.toList) || (!(bt760.2.2.1 == bt766.2.2.1)))) = true then (laws_FnCrashes.j0 k t749 t750 bt752.1 bt752.2 true t746 t747 t748) else (if bt760.2.2.2.1 = bt766.2.2.2.1 then (laws_FnCrashes.j0 k t749 t750 bt752.1 bt752.2 (bt760.2.2.2.2 != bt766.2.2.2.2) t746 t747 t748) else (laws_FnCrashes.j0 k t749 t750 bt752.1 bt752.2 true t746 t747 t748)))) else (laws_FnCrashes.j0 k t749 t750 bt752.1 bt752.2 true t746 t747 t748)))))))) = some r := H
    have A4 := Aside0.mk A40
    clear A40
    replace H := Option.bind_eq_some_iff.mp H
    obtain ⟨⟨t752, t753⟩, A50, H⟩ := H
    replace H : ((spec_CrashLog.f k t746 t747 t748 t749 t750).bind fun bt754 => ((laws_vCut.f l0 1).bind fun t756 => ((spec_DrawRecoverLog.f k t756).bind fun t759 => ((impl_RecoverLog.f k t759).bind fun bt760 => ((spec_RecoverLog.f k t759).bind fun bt766 => (if t752.toList = bt754.1.toList then (if (t753 != bt754.2) = true then (laws_FnCrashes.j0 k t749 t750 t752 t753 true t746 t747 t748) else (if (!(bt760.1.toList == bt766.1.toList) || (!(bt760.2.1.toList == bt766.2.1.toList) || (!(bt760.2.2.1 == bt766.2.2.1)))) = true then (laws_FnCrashes.j0 k t749 t750 t752 t753 true t746 t747 t748) else (if bt760.2.2.2.1 = bt766.2.2.2.1 then (laws_FnCrashes.j0 k t749 t750 t752 t753 (bt760.2.2.2.2 != bt766.2.2.2.2) t746 t747 t748) else (laws_FnCrashes.j0 k t749 t750 t752 t753 true t746 t747 t748)))) else (laws_FnCrashes.j0 k t749 t750 t752 t753 true t746 t747 t748))))))) = some r := H
    have A5 := Aside0.mk A50
    clear A50
    replace H := Option.bind_eq_some_iff.mp H
    obtain ⟨⟨t754, t755⟩, A60, H⟩ := H
    replace H : ((laws_vCut.f l0 1).bind fun t756 => ((spec_DrawRecoverLog.f k t756).bind fun t759 => ((impl_RecoverLog.f k t759).bind fun bt760 => ((spec_RecoverLog.f k t759).bind fun bt766 => (if t752.toList = t754.toList then (if (t753 != t755) = true then (laws_FnCrashes.j0 k t749 t750 t752 t753 true t746 t747 t748) else (if (!(bt760.1.toList == bt766.1.toList) || (!(bt760.2.1.toList == bt766.2.1.toList) || (!(bt760.2.2.1 == bt766.2.2.1)))) = true then (laws_FnCrashes.j0 k t749 t750 t752 t753 true t746 t747 t748) else (if bt760.2.2.2.1 = bt766.2.2.2.1 then (laws_FnCrashes.j0 k t749 t750 t752 t753 (bt760.2.2.2.2 != bt766.2.2.2.2) t746 t747 t748) else (laws_FnCrashes.j0 k t749 t750 t752 t753 true t746 t747 t748)))) else (laws_FnCrashes.j0 k t749 t750 t752 t753 true t746 t747 t748)))))) = some r := H
    have A6 := Aside0.mk A60
    clear A60
    replace H := Option.bind_eq_some_iff.mp H
    obtain ⟨t756, A70, H⟩ := H
    replace H : ((spec_DrawRecoverLog.f k t756).bind fun t759 => ((impl_RecoverLog.f k t759).bind fun bt760 => ((spec_RecoverLog.f k t759).bind fun bt766 => (if t752.toList = t754.toList then (if (t753 != t755) = true then (laws_FnCrashes.j0 k t749 t750 t752 t753 true t746 t747 t748) else (if (!(bt760.1.toList == bt766.1.toList) || (!(bt760.2.1.toList == bt766.2.1.toList) || (!(bt760.2.2.1 == bt766.2.2.1)))) = true then (laws_FnCrashes.j0 k t749 t750 t752 t753 true t746 t747 t748) else (if bt760.2.2.2.1 = bt766.2.2.2.1 then (laws_FnCrashes.j0 k t749 t750 t752 t753 (bt760.2.2.2.2 != bt766.2.2.2.2) t746 t747 t748) else (laws_FnCrashes.j0 k t749 t750 t752 t753 true t746 t747 t748)))) else (laws_FnCrashes.j0 k t749 t750 t752 t753 true t746 t747 t748))))) = some r := H
    have A7 := Aside0.mk A70
    clear A70
    replace H := Option.bind_eq_some_iff.mp H
    obtain ⟨t759, A80, H⟩ := H
    replace H : ((impl_RecoverLog.f k t759).bind fun bt760 => ((spec_RecoverLog.f k t759).bind fun bt766 => (if t752.toList = t754.toList then (if (t753 != t755) = true then (laws_FnCrashes.j0 k t749 t750 t752 t753 true t746 t747 t748) else (if (!(bt760.1.toList == bt766.1.toList) || (!(bt760.2.1.toList == bt766.2.1.toList) || (!(bt760.2.2.1 == bt766.2.2.1)))) = true then (laws_FnCrashes.j0 k t749 t750 t752 t753 true t746 t747 t748) else (if bt760.2.2.2.1 = bt766.2.2.2.1 then (laws_FnCrashes.j0 k t749 t750 t752 t753 (bt760.2.2.2.2 != bt766.2.2.2.2) t746 t747 t748) else (laws_FnCrashes.j0 k t749 t750 t752 t753 true t746 t747 t748)))) else (laws_FnCrashes.j0 k t749 t750 t752 t753 true t746 t747 t748)))) = some r := H
    have A8 := Aside0.mk A80
    clear A80
    replace H := Option.bind_eq_some_iff.mp H
    obtain ⟨⟨t760, t761, t762, t763, t764⟩, A90, H⟩ := H
    replace H : ((spec_RecoverLog.f k t759).bind fun bt766 => (if t752.toList = t754.toList then (if (t753 != t755) = true then (laws_FnCrashes.j0 k t749 t750 t752 t753 true t746 t747 t748) else (if (!(t760.toList == bt766.1.toList) || (!(t761.toList == bt766.2.1.toList) || (!(t762 == bt766.2.2.1)))) = true then (laws_FnCrashes.j0 k t749 t750 t752 t753 true t746 t747 t748) else (if t763 = bt766.2.2.2.1 then (laws_FnCrashes.j0 k t749 t750 t752 t753 (t764 != bt766.2.2.2.2) t746 t747 t748) else (laws_FnCrashes.j0 k t749 t750 t752 t753 true t746 t747 t748)))) else (laws_FnCrashes.j0 k t749 t750 t752 t753 true t746 t747 t748))) = some r := H
    have A9 := Aside0.mk A90
    clear A90
    replace H := Option.bind_eq_some_iff.mp H
    obtain ⟨⟨t766, t767, t768, t769, t770⟩, A100, H⟩ := H
    replace H : (if t752.toList = t754.toList then (if (t753 != t755) = true then (laws_FnCrashes.j0 k t749 t750 t752 t753 true t746 t747 t748) else (if (!(t760.toList == t766.toList) || (!(t761.toList == t767.toList) || (!(t762 == t768)))) = true then (laws_FnCrashes.j0 k t749 t750 t752 t753 true t746 t747 t748) else (if t763 = t769 then (laws_FnCrashes.j0 k t749 t750 t752 t753 (t764 != t770) t746 t747 t748) else (laws_FnCrashes.j0 k t749 t750 t752 t753 true t746 t747 t748)))) else (laws_FnCrashes.j0 k t749 t750 t752 t753 true t746 t747 t748)) = some r := H
    have A10 := Aside0.mk A100
    clear A100
    have HC11 := Aside0.mk H
    clear H
    go_enter Tryd.func5, Tryd.ntmps5
    go_upto_region 9 with (first | ((with_reducible refine gate_callee (f := 11) rfl ?_); refine goesL_ (some 25) rfl rfl Tryd.func11 (by kernel_rfl) rfl #[.slice A0 l0.length c0] rfl (by (try simp only [List.map_toArray, List.map_cons, List.map_nil]); first | done | rfl | (simp only [List.length_drop, List.length_take]; rfl)) ?_; (with_reducible refine (laws_vBig.calls _ _ l0 false _ ?side1 ?side2 A2.out).mono ?_); (case side1 => repeat (first | exact HR0.out | (with_reducible refine Kd.C_alloc ?_ _) | (with_reducible refine Kd.C_drewN ?_ _) | (with_reducible refine Kd.C_drew ?_))); (case side2 => exact HC0.out); rintro e w' ⟨rfl, ⟨nd, rfl⟩⟩; refine ⟨_, rfl, ?_⟩) | ((with_reducible refine gate_callee (f := 30) rfl ?_); refine goesL_ (some 28) rfl rfl Tryd.func30 (by kernel_rfl) rfl #[.slice A0 l0.length c0] rfl (by (try simp only [List.map_toArray, List.map_cons, List.map_nil]); first | done | rfl | (simp only [List.length_drop, List.length_take]; rfl)) ?_; (with_reducible refine (spec_DrawCrashLog.calls k _ _ l0 t746 t747 t748 t749 t750 _ ?side1 ?side2 A4.out).mono ?_); (case side1 => repeat (first | exact HR0.out | (with_reducible refine Kd.C_alloc ?_ _) | (with_reducible refine Kd.C_drewN ?_ _) | (with_reducible refine Kd.C_drew ?_))); (case side2 => exact HC0.out); rintro e w12 ⟨rfl, hb⟩; refine ⟨_, rfl, ?_⟩; have n0_ := Aside0.mk (below_step (by repeat (first | (with_reducible first | exact HB.out | apply below_alloc | apply pw_below_drewN | apply below_drew1) | exact HB.out)) hb); clear HB; have HB := n0_; clear n0_; (try clear hb); (try clear hb2); (try clear hk); (try clear hi)) | ((with_reducible refine gate_dst (N := 3) rfl ?_); (try (refine gate_guard (by rfl) ?_; dsimp only)); refine box_event ?hg (N := 3) ?hd (cs := #[.string (⟨#[]⟩ : ByteArray), .string (⟨#[]⟩ : ByteArray), .int .i64 0]) (t := 38) ?hr ?_; (case hd => rfl); (case hg => rfl); (case hr => first | (go_simp; done) | (go_simp; rfl)); intro gb751 hg w13 hbox hb; have n0_ := Aside0.mk (below_step (by repeat (first | (with_reducible first | exact HB.out | apply below_alloc | apply pw_below_drewN | apply below_drew1) | exact HB.out)) hb); have n1_ := Aside0.mk (hbox); have n2_ := Aside0.mk ((by rw [hg]; exact (below_size (by repeat (first | (with_reducible first | exact HB.out | apply below_alloc | apply pw_below_drewN | apply below_drew1) | exact HB.out))) : w.heap.size ≤ gb751)); have n3_ := Aside0.mk ((by rw [hg]; exact (below_size (by repeat (first | (with_reducible first | exact HB.out | apply below_alloc | apply pw_below_drewN | apply below_drew1) | exact HB.out))) : w.heap.size ≤ gb751)); clear HB; have HB := n0_; have BK751 := n1_; have GW751 := n2_; have GE751 := n3_; clear n0_ n1_ n2_ n3_; clear hb hbox hg; have hcz14_0 : w13.cell? ⟨gb751, 0, none⟩ = some (.string (⟨#[]⟩ : ByteArray)) := (blk_cell BK751.out 0).trans rfl; have hcz14_1 : w13.cell? ⟨gb751, 1, none⟩ = some (.string (⟨#[]⟩ : ByteArray)) := (blk_cell BK751.out 1).trans rfl; have hcz14_2 : w13.cell? ⟨gb751, 2, none⟩ = some (.int .i64 0) := (blk_cell BK751.out 2).trans rfl; have hfz14_0 := blk_frozen BK751.out 0; have hfz14_1 := blk_frozen BK751.out 1; have hfz14_2 := blk_frozen BK751.out 2) | ((with_reducible refine gate_callee (f := 31) rfl ?_); refine goesL_ (some 36) rfl rfl Tryd.func31 (by kernel_rfl) rfl #[.agg #[.string t746, .string t747, .int .i64 t748], .int .i64 t749, .bool t750] rfl (by (try simp only [List.map_toArray, List.map_cons, List.map_nil]); first | done | rfl | (simp only [List.length_drop, List.length_take]; rfl)) ?_; (with_reducible refine (impl_CrashLog.calls k t746 t747 t748 t749 t750 t752 t753 _ ?side1 A5.out).mono ?_); (case side1 => exact TabOK.below HT.out (by repeat (first | (with_reducible first | exact HB.out | apply below_alloc | apply pw_below_drewN | apply below_drew1 | refine bset_ ?_ (by assumption)) | exact HB.out))); rintro e w15 ⟨rfl, hb⟩; refine ⟨_, rfl, ?_⟩; have n0_ := Aside0.mk (blk_below (g := gb751) (o := .cells #[.string t746, .string t747, .int .i64 t748] 38 (0, 0)) (by (with_reducible repeat (first | refine blk_drewN ?_ _ | refine blk_drew ?_ | refine blk_alloc ?_ _)); refine blk_put (cs := #[.string t746, .string t747, .int .i64 0]) ?_ 2 _ rfl; (with_reducible repeat (first | refine blk_drewN ?_ _ | refine blk_drew ?_ | refine blk_alloc ?_ _)); refine blk_put (cs := #[.string t746, .string (⟨#[]⟩ : ByteArray), .int .i64 0]) ?_ 1 _ rfl; (with_reducible repeat (first | refine blk_drewN ?_ _ | refine blk_drew ?_ | refine blk_alloc ?_ _)); refine blk_put (cs := #[.string (⟨#[]⟩ : ByteArray), .string (⟨#[]⟩ : ByteArray), .int .i64 0]) ?_ 0 _ rfl; (with_reducible repeat (first | refine blk_drewN ?_ _ | refine blk_drew ?_ | refine blk_alloc ?_ _)); exact BK751.out) hb); have n1_ := Aside0.mk (below_step (by repeat (first | (with_reducible first | exact HB.out | apply below_alloc | apply pw_below_drewN | apply below_drew1 | refine bset_ ?_ (by assumption)) | exact HB.out)) hb); clear BK751; clear HB; have BK751 := n0_; have HB := n1_; clear n0_ n1_; (try clear hb); (try clear hb2); (try clear hk); (try clear hi); have hcz16_0 : w15.cell? ⟨gb751, 0, none⟩ = some (.string t746) := (blk_cell BK751.out 0).trans rfl; have hcz16_1 : w15.cell? ⟨gb751, 1, none⟩ = some (.string t747) := (blk_cell BK751.out 1).trans rfl; have hcz16_2 : w15.cell? ⟨gb751, 2, none⟩ = some (.int .i64 t748) := (blk_cell BK751.out 2).trans rfl; have hfz16_0 := blk_frozen BK751.out 0; have hfz16_1 := blk_frozen BK751.out 1; have hfz16_2 := blk_frozen BK751.out 2) | ((with_reducible refine gate_callee (f := 32) rfl ?_); refine goesL_ (some 43) rfl rfl Tryd.func32 (by kernel_rfl) rfl #[.agg #[.string t746, .string t747, .int .i64 t748], .int .i64 t749, .bool t750] rfl (by (try simp only [List.map_toArray, List.map_cons, List.map_nil]); first | done | rfl | (simp only [List.length_drop, List.length_take]; rfl)) ?_; (with_reducible refine (spec_CrashLog.calls k t746 t747 t748 t749 t750 t754 t755 _ A6.out).mono ?_); rintro e w17 ⟨rfl, hb⟩; refine ⟨_, rfl, ?_⟩; have n0_ := Aside0.mk (blk_below (g := gb751) (o := .cells #[.string t746, .string t747, .int .i64 t748] 38 (0, 0)) (by (with_reducible repeat (first | refine blk_drewN ?_ _ | refine blk_drew ?_ | refine blk_alloc ?_ _)); exact BK751.out) hb); have n1_ := Aside0.mk (below_step (by repeat (first | (with_reducible first | exact HB.out | apply below_alloc | apply pw_below_drewN | apply below_drew1 | refine bset_ ?_ (by assumption)) | exact HB.out)) hb); clear BK751; clear HB; have BK751 := n0_; have HB := n1_; clear n0_ n1_; (try clear hb); (try clear hb2); (try clear hk); (try clear hi)) | ((with_reducible refine gate_callee (f := 14) rfl ?_); refine goesL_ (some 47) rfl rfl Tryd.func14 (by kernel_rfl) rfl #[.slice A0 l0.length c0, .int .i64 1] rfl (by (try simp only [List.map_toArray, List.map_cons, List.map_nil]); first | done | rfl | (simp only [List.length_drop, List.length_take]; rfl)) ?_; (with_reducible refine (laws_vCut.calls _ _ l0 1 t756 _ ?side1 ?side2 A7.out).mono ?_); (case side1 => repeat (first | exact (Kd.C_below HR0.out HB.out) | (with_reducible refine Kd.C_alloc ?_ _) | (with_reducible refine Kd.C_drewN ?_ _) | (with_reducible refine Kd.C_drew ?_))); (case side2 => exact HC0.out); rintro e w18 ⟨v757, rfl, ho0, hb⟩; refine ⟨_, rfl, ?_⟩; have n0_ := Aside0.mk (Kd.R_lower ho0 (below_size (by repeat (first | (with_reducible first | exact HB.out | apply below_alloc | apply pw_below_drewN | apply below_drew1 | refine bset_ ?_ (by assumption)) | exact HB.out)))); have n1_ := Aside0.mk (blk_below (g := gb751) (o := .cells #[.string t746, .string t747, .int .i64 t748] 38 (0, 0)) (by (with_reducible repeat (first | refine blk_drewN ?_ _ | refine blk_drew ?_ | refine blk_alloc ?_ _)); exact BK751.out) hb); have n2_ := Aside0.mk (below_step (by repeat (first | (with_reducible first | exact HB.out | apply below_alloc | apply pw_below_drewN | apply below_drew1 | refine bset_ ?_ (by assumption)) | exact HB.out)) hb); clear BK751; clear HB; have HO758 := n0_; have BK751 := n1_; have HB := n2_; clear n0_ n1_ n2_; (try clear hb); (try clear hb2); (try clear hk); (try clear hi); (try clear ho0); obtain ⟨Ao19, co19, eo19⟩ := Kd.R_slice HO758.out; subst eo19) | ((with_reducible refine gate_callee (f := 33) rfl ?_); refine goesL_ (some 48) rfl rfl Tryd.func33 (by kernel_rfl) rfl #[.slice Ao19 t756.length co19] rfl (by (try simp only [List.map_toArray, List.map_cons, List.map_nil]); first | done | rfl | (simp only [List.length_drop, List.length_take]; rfl)) ?_; (with_reducible refine (spec_DrawRecoverLog.calls k _ _ t756 t759 _ ?side1 ?side2 A8.out).mono ?_); (case side1 => repeat (first | exact (Kd.R_reads' HO758.out).2.2 | (with_reducible refine Kd.C_alloc ?_ _) | (with_reducible refine Kd.C_drewN ?_ _) | (with_reducible refine Kd.C_drew ?_))); (case side2 => exact (Kd.R_reads' HO758.out).2.1); rintro e w20 ⟨rfl, hb⟩; refine ⟨_, rfl, ?_⟩; have n0_ := Aside0.mk (Kd.R_below (by (with_reducible repeat (first | apply Kd.R_alloc | apply Kd.R_drewN | apply Kd.R_drew)); exact HO758.out) hb); have n1_ := Aside0.mk (blk_below (g := gb751) (o := .cells #[.string t746, .string t747, .int .i64 t748] 38 (0, 0)) (by (with_reducible repeat (first | refine blk_drewN ?_ _ | refine blk_drew ?_ | refine blk_alloc ?_ _)); exact BK751.out) hb); have n2_ := Aside0.mk (below_step (by repeat (first | (with_reducible first | exact HB.out | apply below_alloc | apply pw_below_drewN | apply below_drew1 | refine bset_ ?_ (by assumption)) | exact HB.out)) hb); clear HO758; clear BK751; clear HB; have HO758 := n0_; have BK751 := n1_; have HB := n2_; clear n0_ n1_ n2_; (try clear hb); (try clear hb2); (try clear hk); (try clear hi)) | ((with_reducible refine gate_callee (f := 34) rfl ?_); refine goesL_ (some 51) rfl rfl Tryd.func34 (by kernel_rfl) rfl #[.string t759] rfl (by (try simp only [List.map_toArray, List.map_cons, List.map_nil]); first | done | rfl | (simp only [List.length_drop, List.length_take]; rfl)) ?_; (with_reducible refine (impl_RecoverLog.calls k t759 t760 t761 t762 t763 t764 _ ?side1 A9.out).mono ?_); (case side1 => exact TabOK.below HT.out (by repeat (first | (with_reducible first | exact HB.out | apply below_alloc | apply pw_below_drewN | apply below_drew1 | refine bset_ ?_ (by assumption)) | exact HB.out))); rintro e w21 ⟨rfl, hb⟩; refine ⟨_, rfl, ?_⟩; have n0_ := Aside0.mk (Kd.R_below (by (with_reducible repeat (first | apply Kd.R_alloc | apply Kd.R_drewN | apply Kd.R_drew)); exact HO758.out) hb); have n1_ := Aside0.mk (blk_below (g := gb751) (o := .cells #[.string t746, .string t747, .int .i64 t748] 38 (0, 0)) (by (with_reducible repeat (first | refine blk_drewN ?_ _ | refine blk_drew ?_ | refine blk_alloc ?_ _)); exact BK751.out) hb); have n2_ := Aside0.mk (below_step (by repeat (first | (with_reducible first | exact HB.out | apply below_alloc | apply pw_below_drewN | apply below_drew1 | refine bset_ ?_ (by assumption)) | exact HB.out)) hb); clear HO758; clear BK751; clear HB; have HO758 := n0_; have BK751 := n1_; have HB := n2_; clear n0_ n1_ n2_; (try clear hb); (try clear hb2); (try clear hk); (try clear hi)) | ((with_reducible refine gate_dst (N := 11) rfl ?_); (try (refine gate_guard (by rfl) ?_; dsimp only)); refine box_event ?hg (N := 11) ?hd (cs := #[.string (⟨#[]⟩ : ByteArray), .string (⟨#[]⟩ : ByteArray), .int .i64 0]) (t := 38) ?hr ?_; (case hd => rfl); (case hg => rfl); (case hr => first | (go_simp; done) | (go_simp; rfl)); intro gb765 hg w22 hbox hb; have n0_ := Aside0.mk (Kd.R_below (by (with_reducible repeat (first | apply Kd.R_alloc | apply Kd.R_drewN | apply Kd.R_drew)); exact HO758.out) hb); have n1_ := Aside0.mk (blk_below (g := gb751) (o := .cells #[.string t746, .string t747, .int .i64 t748] 38 (0, 0)) (by (with_reducible repeat (first | refine blk_drewN ?_ _ | refine blk_drew ?_ | refine blk_alloc ?_ _)); exact BK751.out) hb); have n2_ := Aside0.mk (below_step (by repeat (first | (with_reducible first | exact HB.out | apply below_alloc | apply pw_below_drewN | apply below_drew1 | refine bset_ ?_ (by assumption)) | exact HB.out)) hb); have n3_ := Aside0.mk (hbox); have n4_ := Aside0.mk ((by rw [hg]; exact (below_size (by repeat (first | (with_reducible first | exact HB.out | apply below_alloc | apply pw_below_drewN | apply below_drew1 | refine bset_ ?_ (by assumption)) | exact HB.out))) : w.heap.size ≤ gb765)); have n5_ := Aside0.mk ((by rw [hg]; exact (below_size (by repeat (first | (with_reducible first | exact HB.out | apply below_alloc | apply pw_below_drewN | apply below_drew1 | refine bset_ ?_ (by assumption)) | exact HB.out))) : w.heap.size ≤ gb765)); have n6_ := Aside0.mk ((by rw [hg]; exact Nat.ne_of_lt (blk_lt (g := gb751) (o := .cells #[.string t746, .string t747, .int .i64 t748] 38 (0, 0)) (by (with_reducible repeat (first | refine blk_drewN ?_ _ | refine blk_drew ?_ | refine blk_alloc ?_ _)); exact BK751.out)) : gb751 ≠ gb765)); have n7_ := Aside0.mk ((by rw [hg]; exact Nat.ne_of_gt (blk_lt (g := gb751) (o := .cells #[.string t746, .string t747, .int .i64 t748] 38 (0, 0)) (by (with_reducible repeat (first | refine blk_drewN ?_ _ | refine blk_drew ?_ | refine blk_alloc ?_ _)); exact BK751.out)) : gb765 ≠ gb751)); clear HO758; clear BK751; clear HB; have HO758 := n0_; have BK751 := n1_; have HB := n2_; have BK765 := n3_; have GW765 := n4_; have GE765 := n5_; have NB751_765 := n6_; have NB765_751 := n7_; clear n0_ n1_ n2_ n3_ n4_ n5_ n6_ n7_; clear hb hbox hg; have hnb23 := NB765_751.out; have hnc23 := NB751_765.out; have hcz24_0 : w22.cell? ⟨gb765, 0, none⟩ = some (.string (⟨#[]⟩ : ByteArray)) := (blk_cell BK765.out 0).trans rfl; have hcz24_1 : w22.cell? ⟨gb765, 1, none⟩ = some (.string (⟨#[]⟩ : ByteArray)) := (blk_cell BK765.out 1).trans rfl; have hcz24_2 : w22.cell? ⟨gb765, 2, none⟩ = some (.int .i64 0) := (blk_cell BK765.out 2).trans rfl; have hfz24_0 := blk_frozen BK765.out 0; have hfz24_1 := blk_frozen BK765.out 1; have hfz24_2 := blk_frozen BK765.out 2) | ((with_reducible refine gate_callee (f := 35) rfl ?_); refine goesL_ (some 57) rfl rfl Tryd.func35 (by kernel_rfl) rfl #[.string t759] rfl (by (try simp only [List.map_toArray, List.map_cons, List.map_nil]); first | done | rfl | (simp only [List.length_drop, List.length_take]; rfl)) ?_; (with_reducible refine (spec_RecoverLog.calls k t759 t766 t767 t768 t769 t770 _ A10.out).mono ?_); rintro e w25 ⟨rfl, hb⟩; refine ⟨_, rfl, ?_⟩; have n0_ := Aside0.mk (Kd.R_below (by (with_reducible repeat (first | apply Kd.R_alloc | apply Kd.R_drewN | apply Kd.R_drew)); exact (Kd.R_mono (Kd.R_far (p := ⟨gb765, 2, none⟩) (Kd.R_far (p := ⟨gb765, 1, none⟩) (Kd.R_far (p := ⟨gb765, 0, none⟩) (Kd.R_types HO758.out BK765.out (by decide)) (fun _ hk => hk.2) (.string t760)) (fun _ hk => hk.2) (.string t761)) (fun _ hk => hk.2) (.int .i64 t762)) (fun _ h_ => h_.1))) hb); have n1_ := Aside0.mk (blk_below (g := gb751) (o := .cells #[.string t746, .string t747, .int .i64 t748] 38 (0, 0)) (by (with_reducible repeat (first | refine blk_drewN ?_ _ | refine blk_drew ?_ | refine blk_alloc ?_ _)); refine blk_far ?_ NB751_765.out _; (with_reducible repeat (first | refine blk_drewN ?_ _ | refine blk_drew ?_ | refine blk_alloc ?_ _)); refine blk_far ?_ NB751_765.out _; (with_reducible repeat (first | refine blk_drewN ?_ _ | refine blk_drew ?_ | refine blk_alloc ?_ _)); refine blk_far ?_ NB751_765.out _; (with_reducible repeat (first | refine blk_drewN ?_ _ | refine blk_drew ?_ | refine blk_alloc ?_ _)); exact BK751.out) hb); have n2_ := Aside0.mk (blk_below (g := gb765) (o := .cells #[.string t760, .string t761, .int .i64 t762] 38 (0, 0)) (by (with_reducible repeat (first | refine blk_drewN ?_ _ | refine blk_drew ?_ | refine blk_alloc ?_ _)); refine blk_put (cs := #[.string t760, .string t761, .int .i64 0]) ?_ 2 _ rfl; (with_reducible repeat (first | refine blk_drewN ?_ _ | refine blk_drew ?_ | refine blk_alloc ?_ _)); refine blk_put (cs := #[.string t760, .string (⟨#[]⟩ : ByteArray), .int .i64 0]) ?_ 1 _ rfl; (with_reducible repeat (first | refine blk_drewN ?_ _ | refine blk_drew ?_ | refine blk_alloc ?_ _)); refine blk_put (cs := #[.string (⟨#[]⟩ : ByteArray), .string (⟨#[]⟩ : ByteArray), .int .i64 0]) ?_ 0 _ rfl; (with_reducible repeat (first | refine blk_drewN ?_ _ | refine blk_drew ?_ | refine blk_alloc ?_ _)); exact BK765.out) hb); have n3_ := Aside0.mk (below_step (by repeat (first | (with_reducible first | exact HB.out | apply below_alloc | apply pw_below_drewN | apply below_drew1 | refine bset_ ?_ (by assumption)) | exact HB.out)) hb); clear HO758; clear BK751; clear BK765; clear HB; have HO758 := n0_; have BK751 := n1_; have BK765 := n2_; have HB := n3_; clear n0_ n1_ n2_ n3_; (try clear hb); (try clear hb2); (try clear hk); (try clear hi)) | ((with_reducible refine gate_dst (N := 14) rfl ?_); (try (refine gate_guard (by rfl) ?_; dsimp only)); refine box_event ?hg (N := 14) ?hd (cs := #[.string (⟨#[]⟩ : ByteArray), .string (⟨#[]⟩ : ByteArray), .int .i64 0]) (t := 38) ?hr ?_; (case hd => rfl); (case hg => rfl); (case hr => first | (go_simp; done) | (go_simp; rfl)); intro gb771 hg w26 hbox hb; have n0_ := Aside0.mk (Kd.R_below (by (with_reducible repeat (first | apply Kd.R_alloc | apply Kd.R_drewN | apply Kd.R_drew)); exact HO758.out) hb); have n1_ := Aside0.mk (blk_below (g := gb751) (o := .cells #[.string t746, .string t747, .int .i64 t748] 38 (0, 0)) (by (with_reducible repeat (first | refine blk_drewN ?_ _ | refine blk_drew ?_ | refine blk_alloc ?_ _)); exact BK751.out) hb); have n2_ := Aside0.mk (blk_below (g := gb765) (o := .cells #[.string t760, .string t761, .int .i64 t762] 38 (0, 0)) (by (with_reducible repeat (first | refine blk_drewN ?_ _ | refine blk_drew ?_ | refine blk_alloc ?_ _)); exact BK765.out) hb); have n3_ := Aside0.mk (below_step (by repeat (first | (with_reducible first | exact HB.out | apply below_alloc | apply pw_below_drewN | apply below_drew1 | refine bset_ ?_ (by assumption)) | exact HB.out)) hb); have n4_ := Aside0.mk (hbox); have n5_ := Aside0.mk ((by rw [hg]; exact (below_size (by repeat (first | (with_reducible first | exact HB.out | apply below_alloc | apply pw_below_drewN | apply below_drew1 | refine bset_ ?_ (by assumption)) | exact HB.out))) : w.heap.size ≤ gb771)); have n6_ := Aside0.mk ((by rw [hg]; exact (below_size (by repeat (first | (with_reducible first | exact HB.out | apply below_alloc | apply pw_below_drewN | apply below_drew1 | refine bset_ ?_ (by assumption)) | exact HB.out))) : w.heap.size ≤ gb771)); have n7_ := Aside0.mk ((by rw [hg]; exact Nat.ne_of_lt (blk_lt (g := gb751) (o := .cells #[.string t746, .string t747, .int .i64 t748] 38 (0, 0)) (by (with_reducible repeat (first | refine blk_drewN ?_ _ | refine blk_drew ?_ | refine blk_alloc ?_ _)); exact BK751.out)) : gb751 ≠ gb771)); have n8_ := Aside0.mk ((by rw [hg]; exact Nat.ne_of_gt (blk_lt (g := gb751) (o := .cells #[.string t746, .string t747, .int .i64 t748] 38 (0, 0)) (by (with_reducible repeat (first | refine blk_drewN ?_ _ | refine blk_drew ?_ | refine blk_alloc ?_ _)); exact BK751.out)) : gb771 ≠ gb751)); have n9_ := Aside0.mk ((by rw [hg]; exact Nat.ne_of_lt (blk_lt (g := gb765) (o := .cells #[.string t760, .string t761, .int .i64 t762] 38 (0, 0)) (by (with_reducible repeat (first | refine blk_drewN ?_ _ | refine blk_drew ?_ | refine blk_alloc ?_ _)); exact BK765.out)) : gb765 ≠ gb771)); have n10_ := Aside0.mk ((by rw [hg]; exact Nat.ne_of_gt (blk_lt (g := gb765) (o := .cells #[.string t760, .string t761, .int .i64 t762] 38 (0, 0)) (by (with_reducible repeat (first | refine blk_drewN ?_ _ | refine blk_drew ?_ | refine blk_alloc ?_ _)); exact BK765.out)) : gb771 ≠ gb765)); clear HO758; clear BK751; clear BK765; clear HB; have HO758 := n0_; have BK751 := n1_; have BK765 := n2_; have HB := n3_; have BK771 := n4_; have GW771 := n5_; have GE771 := n6_; have NB751_771 := n7_; have NB771_751 := n8_; have NB765_771 := n9_; have NB771_765 := n10_; clear n0_ n1_ n2_ n3_ n4_ n5_ n6_ n7_ n8_ n9_ n10_; clear hb hbox hg; have hnb27 := NB771_751.out; have hnc27 := NB751_771.out; have hnb28 := NB771_765.out; have hnc28 := NB765_771.out; have hcz29_0 : w26.cell? ⟨gb771, 0, none⟩ = some (.string (⟨#[]⟩ : ByteArray)) := (blk_cell BK771.out 0).trans rfl; have hcz29_1 : w26.cell? ⟨gb771, 1, none⟩ = some (.string (⟨#[]⟩ : ByteArray)) := (blk_cell BK771.out 1).trans rfl; have hcz29_2 : w26.cell? ⟨gb771, 2, none⟩ = some (.int .i64 0) := (blk_cell BK771.out 2).trans rfl; have hfz29_0 := blk_frozen BK771.out 0; have hfz29_1 := blk_frozen BK771.out 1; have hfz29_2 := blk_frozen BK771.out 2))
    (try simp only [Act.put, List.setIfInBounds_toArray, List.set_cons_zero, List.set_cons_succ])
    go_cut [83] (fun v83 wc => ∃ (kq : Nat) (x83_10 : Bool), v83 = .bool x83_10 ∧ Aside0 (laws_FnCrashes.j0 kq t749 t750 t752 t753 x83_10 t746 t747 t748 = some r) ∧ Aside0 (kq ≤ k) ∧ Aside0 (wc.heap[gb751]? = some (.cells #[.string t746, .string t747, .int .i64 t748] 38 (0, 0))) ∧ Aside0 (wc.heap[gb765]? = some (.cells #[.string t760, .string t761, .int .i64 t762] 38 (0, 0))) ∧ Aside0 (wc.heap[gb771]? = some (.cells #[.string t766, .string t767, .int .i64 t768] 38 (0, 0))) ∧ Aside0 (Below w.heap.size w wc))
    case first =>
      have H := HC11.out
      clear HC11
      by_cases c30 : t752.toList = t754.toList
      · rw [if_pos c30] at H
        have c30b0 : (t752.toList == t754.toList) = true := beq_iff_eq.mpr c30
        have c30b1 : (t752.toList != t754.toList) = false := bne_eq_false_iff_eq.mpr c30
        clear c30
        (first | rw [c30b0] | (simp only [i64_w, i32_w]; rw [c30b0]) | skip)
        by_cases c31 : (t753 != t755) = true
        · rw [if_pos c31] at H
          have c31b0 : (t753 != t755) = true := c31
          (try (have c31b1 : decide (t753 = t755) = false := by simpa using c31))
          (try (have c31b2 : (t753 == t755) = false := by simpa using c31))
          (try (have c31b3 : ¬ (t753 = t755) := by simpa using c31))
          clear c31
          exact absurd (H.trans (congrArg some hyes)) (laws_FnCrashes.j0_no _ _ _ _ _ _ _ _)
        · rw [if_neg c31] at H
          have c31b0 : (t753 != t755) = false := by simpa using c31
          (try (have c31b1 : decide (t753 = t755) = true := by simpa using c31))
          (try (have c31b2 : (t753 == t755) = true := by simpa using c31))
          clear c31
          by_cases c32 : (!(t760.toList == t766.toList) || (!(t761.toList == t767.toList) || (!(t762 == t768)))) = true
          · rw [if_pos c32] at H
            have c32b0 : (!(t760.toList == t766.toList) || (!(t761.toList == t767.toList) || (!(t762 == t768)))) = true := c32
            clear c32
            exact absurd (H.trans (congrArg some hyes)) (laws_FnCrashes.j0_no _ _ _ _ _ _ _ _)
          · rw [if_neg c32] at H
            have c32b0 : (!(t760.toList == t766.toList) || (!(t761.toList == t767.toList) || (!(t762 == t768)))) = false := by simpa using c32
            clear c32
            by_cases c38 : t763 = t769
            · rw [if_pos c38] at H
              have c38b0 : (t763 == t769) = true := beq_iff_eq.mpr c38
              have c38b1 : (t763 != t769) = false := bne_eq_false_iff_eq.mpr c38
              clear c38
              have H' := Aside0.mk H
              clear H
              have hnb39 := NB765_751.out
              have hnc39 := NB751_765.out
              have hnb40 := NB765_771.out
              have hnc40 := NB771_765.out
              have hcz41_0 : w26.cell? ⟨gb765, 0, none⟩ = some (.string t760) := (blk_cell BK765.out 0).trans rfl
              have hcz41_1 : w26.cell? ⟨gb765, 1, none⟩ = some (.string t761) := (blk_cell BK765.out 1).trans rfl
              have hcz41_2 : w26.cell? ⟨gb765, 2, none⟩ = some (.int .i64 t762) := (blk_cell BK765.out 2).trans rfl
              have hfz41_0 := blk_frozen BK765.out 0
              have hfz41_1 := blk_frozen BK765.out 1
              have hfz41_2 := blk_frozen BK765.out 2
              have hnb42 := NB771_751.out
              have hnc42 := NB751_771.out
              have hcz43_0 : w26.cell? ⟨gb771, 0, none⟩ = some (.string (⟨#[]⟩ : ByteArray)) := (blk_cell BK771.out 0).trans rfl
              have hcz43_1 : w26.cell? ⟨gb771, 1, none⟩ = some (.string (⟨#[]⟩ : ByteArray)) := (blk_cell BK771.out 1).trans rfl
              have hcz43_2 : w26.cell? ⟨gb771, 2, none⟩ = some (.int .i64 0) := (blk_cell BK771.out 2).trans rfl
              have hfz43_0 := blk_frozen BK771.out 0
              have hfz43_1 := blk_frozen BK771.out 1
              have hfz43_2 := blk_frozen BK771.out 2
              go_wp2
              go_meet
              case rel => exact ⟨_, ((t764 != t770)), (by first | rfl | (simp; done) | (simp [*]; done)), H', ⟨by first | omega | exact Nat.le_refl _⟩, ⟨by (with_reducible repeat (first | refine blk_drewN ?_ _ | refine blk_drew ?_ | refine blk_alloc ?_ _)); refine blk_far ?_ NB751_771.out _; (with_reducible repeat (first | refine blk_drewN ?_ _ | refine blk_drew ?_ | refine blk_alloc ?_ _)); refine blk_far ?_ NB751_771.out _; (with_reducible repeat (first | refine blk_drewN ?_ _ | refine blk_drew ?_ | refine blk_alloc ?_ _)); refine blk_far ?_ NB751_771.out _; (with_reducible repeat (first | refine blk_drewN ?_ _ | refine blk_drew ?_ | refine blk_alloc ?_ _)); exact BK751.out⟩, ⟨by (with_reducible repeat (first | refine blk_drewN ?_ _ | refine blk_drew ?_ | refine blk_alloc ?_ _)); refine blk_far ?_ NB765_771.out _; (with_reducible repeat (first | refine blk_drewN ?_ _ | refine blk_drew ?_ | refine blk_alloc ?_ _)); refine blk_far ?_ NB765_771.out _; (with_reducible repeat (first | refine blk_drewN ?_ _ | refine blk_drew ?_ | refine blk_alloc ?_ _)); refine blk_far ?_ NB765_771.out _; (with_reducible repeat (first | refine blk_drewN ?_ _ | refine blk_drew ?_ | refine blk_alloc ?_ _)); exact BK765.out⟩, ⟨by (with_reducible repeat (first | refine blk_drewN ?_ _ | refine blk_drew ?_ | refine blk_alloc ?_ _)); refine blk_put (cs := #[.string t766, .string t767, .int .i64 0]) ?_ 2 _ rfl; (with_reducible repeat (first | refine blk_drewN ?_ _ | refine blk_drew ?_ | refine blk_alloc ?_ _)); refine blk_put (cs := #[.string t766, .string (⟨#[]⟩ : ByteArray), .int .i64 0]) ?_ 1 _ rfl; (with_reducible repeat (first | refine blk_drewN ?_ _ | refine blk_drew ?_ | refine blk_alloc ?_ _)); refine blk_put (cs := #[.string (⟨#[]⟩ : ByteArray), .string (⟨#[]⟩ : ByteArray), .int .i64 0]) ?_ 0 _ rfl; (with_reducible repeat (first | refine blk_drewN ?_ _ | refine blk_drew ?_ | refine blk_alloc ?_ _)); exact BK771.out⟩, ⟨by repeat (first | (with_reducible first | exact HB.out | apply below_alloc | apply pw_below_drewN | apply below_drew1 | refine bset_ ?_ (by assumption)) | exact HB.out)⟩⟩
            · rw [if_neg c38] at H
              have c38b0 : (t763 == t769) = false := beq_eq_false_iff_ne.mpr c38
              have c38b1 : (t763 != t769) = true := bne_iff_ne.mpr c38
              exact absurd (H.trans (congrArg some hyes)) (laws_FnCrashes.j0_no _ _ _ _ _ _ _ _)
      · rw [if_neg c30] at H
        have c30b0 : (t752.toList == t754.toList) = false := beq_eq_false_iff_ne.mpr c30
        have c30b1 : (t752.toList != t754.toList) = true := bne_iff_ne.mpr c30
        (first | rw [c30b0] | (simp only [i64_w, i32_w]; rw [c30b0]) | skip)
        exact absurd (H.trans (congrArg some hyes)) (laws_FnCrashes.j0_no _ _ _ _ _ _ _ _)
    case rest =>
      clear HC11
      try clear c1
      try clear c2
      try clear p2
      try clear c3
      try clear c4
      try clear c5
      try clear c11
      try clear c14
      try clear c23
      try clear c27
      try clear c28
      try clear c30
      try clear c30b0
      try clear c30b1
      try clear c31
      try clear c31b0
      try clear c31b1
      try clear c31b2
      try clear c32
      try clear c32b0
      try clear c33
      try clear c34
      try clear c35
      try clear c36
      try clear c38
      try clear c38b0
      try clear c38b1
      try clear c39
      try clear c40
      try clear c42
      try clear c44
      try clear c45
      try clear c47
      try clear hcz14_0
      try clear hcz14_1
      try clear hcz14_2
      try clear hcz16_0
      try clear hcz16_1
      try clear hcz16_2
      try clear hcz24_0
      try clear hcz24_1
      try clear hcz24_2
      try clear hcz29_0
      try clear hcz29_1
      try clear hcz29_2
      try clear hcz35_0
      try clear hcz35_1
      try clear hcz35_2
      try clear hcz37_0
      try clear hcz37_1
      try clear hcz37_2
      try clear hcz41_0
      try clear hcz41_1
      try clear hcz41_2
      try clear hcz43_0
      try clear hcz43_1
      try clear hcz43_2
      try clear hcz46_0
      try clear hcz46_1
      try clear hcz46_2
      try clear hcz48_0
      try clear hcz48_1
      try clear hcz48_2
      try clear hfz14_0
      try clear hfz14_1
      try clear hfz14_2
      try clear hfz16_0
      try clear hfz16_1
      try clear hfz16_2
      try clear hfz24_0
      try clear hfz24_1
      try clear hfz24_2
      try clear hfz29_0
      try clear hfz29_1
      try clear hfz29_2
      try clear hfz35_0
      try clear hfz35_1
      try clear hfz35_2
      try clear hfz37_0
      try clear hfz37_1
      try clear hfz37_2
      try clear hfz41_0
      try clear hfz41_1
      try clear hfz41_2
      try clear hfz43_0
      try clear hfz43_1
      try clear hfz43_2
      try clear hfz46_0
      try clear hfz46_1
      try clear hfz46_2
      try clear hfz48_0
      try clear hfz48_1
      try clear hfz48_2
      obtain ⟨kq, x83_10, rfl, HA, HJ10, BK751, BK765, BK771, HB⟩ := hcut
      cases kq with
      | zero => exact absurd HA.out (by simp [laws_FnCrashes.j0])
      | succ kj10 =>
        have H := HA.out
        clear HA
        simp only [laws_FnCrashes.j0] at H
        by_cases c49 : x83_10 = true
        · subst c49
          have H1 : (some false) = some r := by rw [if_pos rfl] at H; exact H
          clear H
          have H := H1
          clear H1
          exact absurd ((Option.some.inj H).trans hyes) (by decide)
        · replace c49 := Bool.eq_false_iff.mpr c49
          subst c49
          have H1 : (if t753 = true then ((impl_RecoverLog.f kj10 t752).bind fun bt772 => (if bt772.2.2.2.2 = true then ((impl_IsValidLog.f kj10 bt772.1 bt772.2.1 bt772.2.2.1).bind fun t778 => (if t778 = true then (if bt772.2.2.2.1 < (t746.size : Int) then (laws_FnCrashes.j1 kj10 t749 t750 true t746 t747 t748 bt772.1 bt772.2.1 bt772.2.2.1) else (laws_FnCrashes.j1 kj10 t749 t750 ((bt772.1.size : Int) != bt772.2.2.2.1) t746 t747 t748 bt772.1 bt772.2.1 bt772.2.2.1)) else (laws_FnCrashes.j1 kj10 t749 t750 true t746 t747 t748 bt772.1 bt772.2.1 bt772.2.2.1))) else (laws_FnCrashes.j1 kj10 t749 t750 true t746 t747 t748 bt772.1 bt772.2.1 bt772.2.2.1))) else (some true)) = some r := by rw [if_neg (show ¬ (false = true) by decide)] at H; exact H
          clear H
          have H := H1
          clear H1
          by_cases c50 : t753 = true
          · subst c50
            have H1 : ((impl_RecoverLog.f kj10 t752).bind fun bt772 => (if bt772.2.2.2.2 = true then ((impl_IsValidLog.f kj10 bt772.1 bt772.2.1 bt772.2.2.1).bind fun t778 => (if t778 = true then (if bt772.2.2.2.1 < (t746.size : Int) then (laws_FnCrashes.j1 kj10 t749 t750 true t746 t747 t748 bt772.1 bt772.2.1 bt772.2.2.1) else (laws_FnCrashes.j1 kj10 t749 t750 ((bt772.1.size : Int) != bt772.2.2.2.1) t746 t747 t748 bt772.1 bt772.2.1 bt772.2.2.1)) else (laws_FnCrashes.j1 kj10 t749 t750 true t746 t747 t748 bt772.1 bt772.2.1 bt772.2.2.1))) else (laws_FnCrashes.j1 kj10 t749 t750 true t746 t747 t748 bt772.1 bt772.2.1 bt772.2.2.1))) = some r := by rw [if_pos rfl] at H; exact H
            clear H
            have H := H1
            clear H1
            replace H := Option.bind_eq_some_iff.mp H
            obtain ⟨⟨t772, t773, t774, t775, t776⟩, A510, H⟩ := H
            replace H : (if t776 = true then ((impl_IsValidLog.f kj10 t772 t773 t774).bind fun t778 => (if t778 = true then (if t775 < (t746.size : Int) then (laws_FnCrashes.j1 kj10 t749 t750 true t746 t747 t748 t772 t773 t774) else (laws_FnCrashes.j1 kj10 t749 t750 ((t772.size : Int) != t775) t746 t747 t748 t772 t773 t774)) else (laws_FnCrashes.j1 kj10 t749 t750 true t746 t747 t748 t772 t773 t774))) else (laws_FnCrashes.j1 kj10 t749 t750 true t746 t747 t748 t772 t773 t774)) = some r := H
            have A51 := Aside0.mk A510
            clear A510
            have HC52 := Aside0.mk H
            clear H
            go_upto_region 14 with (first | ((with_reducible refine gate_callee (f := 34) rfl ?_); refine goesL_ (some 88) rfl rfl Tryd.func34 (by kernel_rfl) rfl #[.string t752] rfl (by (try simp only [List.map_toArray, List.map_cons, List.map_nil]); first | done | rfl | (simp only [List.length_drop, List.length_take]; rfl)) ?_; (with_reducible refine (impl_RecoverLog.calls kj10 t752 t772 t773 t774 t775 t776 _ ?side1 A51.out).mono ?_); (case side1 => exact TabOK.below HT.out (by repeat (first | (with_reducible first | exact HB.out | apply below_alloc | apply pw_below_drewN | apply below_drew1 | refine bset_ ?_ (by assumption)) | exact HB.out))); rintro e w53 ⟨rfl, hb⟩; refine ⟨_, rfl, ?_⟩; have n0_ := Aside0.mk (blk_below (g := gb751) (o := .cells #[.string t746, .string t747, .int .i64 t748] 38 (0, 0)) (by (with_reducible repeat (first | refine blk_drewN ?_ _ | refine blk_drew ?_ | refine blk_alloc ?_ _)); exact BK751.out) hb); have n1_ := Aside0.mk (blk_below (g := gb765) (o := .cells #[.string t760, .string t761, .int .i64 t762] 38 (0, 0)) (by (with_reducible repeat (first | refine blk_drewN ?_ _ | refine blk_drew ?_ | refine blk_alloc ?_ _)); exact BK765.out) hb); have n2_ := Aside0.mk (blk_below (g := gb771) (o := .cells #[.string t766, .string t767, .int .i64 t768] 38 (0, 0)) (by (with_reducible repeat (first | refine blk_drewN ?_ _ | refine blk_drew ?_ | refine blk_alloc ?_ _)); exact BK771.out) hb); have n3_ := Aside0.mk (below_step (by repeat (first | (with_reducible first | exact HB.out | apply below_alloc | apply pw_below_drewN | apply below_drew1 | refine bset_ ?_ (by assumption)) | exact HB.out)) hb); clear BK751; clear BK765; clear BK771; clear HB; have BK751 := n0_; have BK765 := n1_; have BK771 := n2_; have HB := n3_; clear n0_ n1_ n2_ n3_; (try clear hb); (try clear hb2); (try clear hk); (try clear hi)) | ((with_reducible refine gate_dst (N := 17) rfl ?_); (try (refine gate_guard (by rfl) ?_; dsimp only)); refine box_event ?hg (N := 17) ?hd (cs := #[.string (⟨#[]⟩ : ByteArray), .string (⟨#[]⟩ : ByteArray), .int .i64 0]) (t := 38) ?hr ?_; (case hd => rfl); (case hg => rfl); (case hr => first | (go_simp; done) | (go_simp; rfl)); intro gb777 hg w54 hbox hb; have n0_ := Aside0.mk (blk_below (g := gb751) (o := .cells #[.string t746, .string t747, .int .i64 t748] 38 (0, 0)) (by (with_reducible repeat (first | refine blk_drewN ?_ _ | refine blk_drew ?_ | refine blk_alloc ?_ _)); exact BK751.out) hb); have n1_ := Aside0.mk (blk_below (g := gb765) (o := .cells #[.string t760, .string t761, .int .i64 t762] 38 (0, 0)) (by (with_reducible repeat (first | refine blk_drewN ?_ _ | refine blk_drew ?_ | refine blk_alloc ?_ _)); exact BK765.out) hb); have n2_ := Aside0.mk (blk_below (g := gb771) (o := .cells #[.string t766, .string t767, .int .i64 t768] 38 (0, 0)) (by (with_reducible repeat (first | refine blk_drewN ?_ _ | refine blk_drew ?_ | refine blk_alloc ?_ _)); exact BK771.out) hb); have n3_ := Aside0.mk (below_step (by repeat (first | (with_reducible first | exact HB.out | apply below_alloc | apply pw_below_drewN | apply below_drew1 | refine bset_ ?_ (by assumption)) | exact HB.out)) hb); have n4_ := Aside0.mk (hbox); have n5_ := Aside0.mk ((by rw [hg]; exact (below_size (by repeat (first | (with_reducible first | exact HB.out | apply below_alloc | apply pw_below_drewN | apply below_drew1 | refine bset_ ?_ (by assumption)) | exact HB.out))) : w.heap.size ≤ gb777)); have n6_ := Aside0.mk ((by rw [hg]; exact (below_size (by repeat (first | (with_reducible first | exact HB.out | apply below_alloc | apply pw_below_drewN | apply below_drew1 | refine bset_ ?_ (by assumption)) | exact HB.out))) : w.heap.size ≤ gb777)); have n7_ := Aside0.mk ((by rw [hg]; exact Nat.ne_of_lt (blk_lt (g := gb751) (o := .cells #[.string t746, .string t747, .int .i64 t748] 38 (0, 0)) (by (with_reducible repeat (first | refine blk_drewN ?_ _ | refine blk_drew ?_ | refine blk_alloc ?_ _)); exact BK751.out)) : gb751 ≠ gb777)); have n8_ := Aside0.mk ((by rw [hg]; exact Nat.ne_of_gt (blk_lt (g := gb751) (o := .cells #[.string t746, .string t747, .int .i64 t748] 38 (0, 0)) (by (with_reducible repeat (first | refine blk_drewN ?_ _ | refine blk_drew ?_ | refine blk_alloc ?_ _)); exact BK751.out)) : gb777 ≠ gb751)); have n9_ := Aside0.mk ((by rw [hg]; exact Nat.ne_of_lt (blk_lt (g := gb765) (o := .cells #[.string t760, .string t761, .int .i64 t762] 38 (0, 0)) (by (with_reducible repeat (first | refine blk_drewN ?_ _ | refine blk_drew ?_ | refine blk_alloc ?_ _)); exact BK765.out)) : gb765 ≠ gb777)); have n10_ := Aside0.mk ((by rw [hg]; exact Nat.ne_of_gt (blk_lt (g := gb765) (o := .cells #[.string t760, .string t761, .int .i64 t762] 38 (0, 0)) (by (with_reducible repeat (first | refine blk_drewN ?_ _ | refine blk_drew ?_ | refine blk_alloc ?_ _)); exact BK765.out)) : gb777 ≠ gb765)); have n11_ := Aside0.mk ((by rw [hg]; exact Nat.ne_of_lt (blk_lt (g := gb771) (o := .cells #[.string t766, .string t767, .int .i64 t768] 38 (0, 0)) (by (with_reducible repeat (first | refine blk_drewN ?_ _ | refine blk_drew ?_ | refine blk_alloc ?_ _)); exact BK771.out)) : gb771 ≠ gb777)); have n12_ := Aside0.mk ((by rw [hg]; exact Nat.ne_of_gt (blk_lt (g := gb771) (o := .cells #[.string t766, .string t767, .int .i64 t768] 38 (0, 0)) (by (with_reducible repeat (first | refine blk_drewN ?_ _ | refine blk_drew ?_ | refine blk_alloc ?_ _)); exact BK771.out)) : gb777 ≠ gb771)); clear BK751; clear BK765; clear BK771; clear HB; have BK751 := n0_; have BK765 := n1_; have BK771 := n2_; have HB := n3_; have BK777 := n4_; have GW777 := n5_; have GE777 := n6_; have NB751_777 := n7_; have NB777_751 := n8_; have NB765_777 := n9_; have NB777_765 := n10_; have NB771_777 := n11_; have NB777_771 := n12_; clear n0_ n1_ n2_ n3_ n4_ n5_ n6_ n7_ n8_ n9_ n10_ n11_ n12_; clear hb hbox hg; have hnb55 := NB777_751.out; have hnc55 := NB751_777.out; have hnb56 := NB777_765.out; have hnc56 := NB765_777.out; have hnb57 := NB777_771.out; have hnc57 := NB771_777.out; have hcz58_0 : w54.cell? ⟨gb777, 0, none⟩ = some (.string (⟨#[]⟩ : ByteArray)) := (blk_cell BK777.out 0).trans rfl; have hcz58_1 : w54.cell? ⟨gb777, 1, none⟩ = some (.string (⟨#[]⟩ : ByteArray)) := (blk_cell BK777.out 1).trans rfl; have hcz58_2 : w54.cell? ⟨gb777, 2, none⟩ = some (.int .i64 0) := (blk_cell BK777.out 2).trans rfl; have hfz58_0 := blk_frozen BK777.out 0; have hfz58_1 := blk_frozen BK777.out 1; have hfz58_2 := blk_frozen BK777.out 2))
            (try simp only [Act.put, List.setIfInBounds_toArray, List.set_cons_zero, List.set_cons_succ])
            go_cut [112] (fun v112 wc => ∃ (kq : Nat) (x112_51 : Bool), v112 = .bool x112_51 ∧ Aside0 (laws_FnCrashes.j1 kq t749 t750 x112_51 t746 t747 t748 t772 t773 t774 = some r) ∧ Aside0 (kq ≤ kj10) ∧ Aside0 (wc.heap[gb751]? = some (.cells #[.string t746, .string t747, .int .i64 t748] 38 (0, 0))) ∧ Aside0 (wc.heap[gb765]? = some (.cells #[.string t760, .string t761, .int .i64 t762] 38 (0, 0))) ∧ Aside0 (wc.heap[gb771]? = some (.cells #[.string t766, .string t767, .int .i64 t768] 38 (0, 0))) ∧ Aside0 (wc.heap[gb777]? = some (.cells #[.string t772, .string t773, .int .i64 t774] 38 (0, 0))) ∧ Aside0 (Below w.heap.size w wc))
            case first =>
              have H := HC52.out
              clear HC52
              by_cases c59 : t776 = true
              · subst c59
                have H1 : ((impl_IsValidLog.f kj10 t772 t773 t774).bind fun t778 => (if t778 = true then (if t775 < (t746.size : Int) then (laws_FnCrashes.j1 kj10 t749 t750 true t746 t747 t748 t772 t773 t774) else (laws_FnCrashes.j1 kj10 t749 t750 ((t772.size : Int) != t775) t746 t747 t748 t772 t773 t774)) else (laws_FnCrashes.j1 kj10 t749 t750 true t746 t747 t748 t772 t773 t774))) = some r := by rw [if_pos rfl] at H; exact H
                clear H
                have H := H1
                clear H1
                replace H := Option.bind_eq_some_iff.mp H
                obtain ⟨t778, A600, H⟩ := H
                replace H : (if t778 = true then (if t775 < (t746.size : Int) then (laws_FnCrashes.j1 kj10 t749 t750 true t746 t747 t748 t772 t773 t774) else (laws_FnCrashes.j1 kj10 t749 t750 ((t772.size : Int) != t775) t746 t747 t748 t772 t773 t774)) else (laws_FnCrashes.j1 kj10 t749 t750 true t746 t747 t748 t772 t773 t774)) = some r := H
                have A60 := Aside0.mk A600
                clear A600
                by_cases c61 : t778 = true
                · subst c61
                  have H1 : (if t775 < (t746.size : Int) then (laws_FnCrashes.j1 kj10 t749 t750 true t746 t747 t748 t772 t773 t774) else (laws_FnCrashes.j1 kj10 t749 t750 ((t772.size : Int) != t775) t746 t747 t748 t772 t773 t774)) = some r := by rw [if_pos rfl] at H; exact H
                  clear H
                  have H := H1
                  clear H1
                  by_cases c62 : t775 < (t746.size : Int)
                  · rw [if_pos c62] at H
                    have c62b0 : decide (t775 < (t746.size : Int)) = true := decide_eq_true c62
                    clear c62
                    (first | rw [c62b0] | (simp only [i64_w, i32_w]; rw [c62b0]) | skip)
                    exact absurd (H.trans (congrArg some hyes)) (laws_FnCrashes.j1_no _ _ _ _ _ _ _ _ _)
                  · rw [if_neg c62] at H
                    have c62b0 : decide (t775 < (t746.size : Int)) = false := decide_eq_false c62
                    clear c62
                    (first | rw [c62b0] | (simp only [i64_w, i32_w]; rw [c62b0]) | skip)
                    have H' := Aside0.mk H
                    clear H
                    have hnb71 := NB777_751.out
                    have hnc71 := NB751_777.out
                    have hnb72 := NB777_765.out
                    have hnc72 := NB765_777.out
                    have hnb73 := NB777_771.out
                    have hnc73 := NB771_777.out
                    have hcz74_0 : w54.cell? ⟨gb777, 0, none⟩ = some (.string (⟨#[]⟩ : ByteArray)) := (blk_cell BK777.out 0).trans rfl
                    have hcz74_1 : w54.cell? ⟨gb777, 1, none⟩ = some (.string (⟨#[]⟩ : ByteArray)) := (blk_cell BK777.out 1).trans rfl
                    have hcz74_2 : w54.cell? ⟨gb777, 2, none⟩ = some (.int .i64 0) := (blk_cell BK777.out 2).trans rfl
                    have hfz74_0 := blk_frozen BK777.out 0
                    have hfz74_1 := blk_frozen BK777.out 1
                    have hfz74_2 := blk_frozen BK777.out 2
                    go_wp2_with (first | (go_at_call 23; (with_reducible refine (impl_IsValidLog.calls kj10 t772 t773 t774 true _ ?side1 A60.out).mono ?_); (case side1 => exact TabOK.below HT.out (by repeat (first | (with_reducible first | exact HB.out | apply below_alloc | apply pw_below_drewN | apply below_drew1 | refine bset_ ?_ (by assumption)) | exact HB.out))); rintro e w75 ⟨rfl, hb⟩; have n0_ := Aside0.mk (blk_below (g := gb751) (o := .cells #[.string t746, .string t747, .int .i64 t748] 38 (0, 0)) (by (with_reducible repeat (first | refine blk_drewN ?_ _ | refine blk_drew ?_ | refine blk_alloc ?_ _)); refine blk_far ?_ NB751_777.out _; (with_reducible repeat (first | refine blk_drewN ?_ _ | refine blk_drew ?_ | refine blk_alloc ?_ _)); refine blk_far ?_ NB751_777.out _; (with_reducible repeat (first | refine blk_drewN ?_ _ | refine blk_drew ?_ | refine blk_alloc ?_ _)); refine blk_far ?_ NB751_777.out _; (with_reducible repeat (first | refine blk_drewN ?_ _ | refine blk_drew ?_ | refine blk_alloc ?_ _)); exact BK751.out) hb); have n1_ := Aside0.mk (blk_below (g := gb765) (o := .cells #[.string t760, .string t761, .int .i64 t762] 38 (0, 0)) (by (with_reducible repeat (first | refine blk_drewN ?_ _ | refine blk_drew ?_ | refine blk_alloc ?_ _)); refine blk_far ?_ NB765_777.out _; (with_reducible repeat (first | refine blk_drewN ?_ _ | refine blk_drew ?_ | refine blk_alloc ?_ _)); refine blk_far ?_ NB765_777.out _; (with_reducible repeat (first | refine blk_drewN ?_ _ | refine blk_drew ?_ | refine blk_alloc ?_ _)); refine blk_far ?_ NB765_777.out _; (with_reducible repeat (first | refine blk_drewN ?_ _ | refine blk_drew ?_ | refine blk_alloc ?_ _)); exact BK765.out) hb); have n2_ := Aside0.mk (blk_below (g := gb771) (o := .cells #[.string t766, .string t767, .int .i64 t768] 38 (0, 0)) (by (with_reducible repeat (first | refine blk_drewN ?_ _ | refine blk_drew ?_ | refine blk_alloc ?_ _)); refine blk_far ?_ NB771_777.out _; (with_reducible repeat (first | refine blk_drewN ?_ _ | refine blk_drew ?_ | refine blk_alloc ?_ _)); refine blk_far ?_ NB771_777.out _; (with_reducible repeat (first | refine blk_drewN ?_ _ | refine blk_drew ?_ | refine blk_alloc ?_ _)); refine blk_far ?_ NB771_777.out _; (with_reducible repeat (first | refine blk_drewN ?_ _ | refine blk_drew ?_ | refine blk_alloc ?_ _)); exact BK771.out) hb); have n3_ := Aside0.mk (blk_below (g := gb777) (o := .cells #[.string t772, .string t773, .int .i64 t774] 38 (0, 0)) (by (with_reducible repeat (first | refine blk_drewN ?_ _ | refine blk_drew ?_ | refine blk_alloc ?_ _)); refine blk_put (cs := #[.string t772, .string t773, .int .i64 0]) ?_ 2 _ rfl; (with_reducible repeat (first | refine blk_drewN ?_ _ | refine blk_drew ?_ | refine blk_alloc ?_ _)); refine blk_put (cs := #[.string t772, .string (⟨#[]⟩ : ByteArray), .int .i64 0]) ?_ 1 _ rfl; (with_reducible repeat (first | refine blk_drewN ?_ _ | refine blk_drew ?_ | refine blk_alloc ?_ _)); refine blk_put (cs := #[.string (⟨#[]⟩ : ByteArray), .string (⟨#[]⟩ : ByteArray), .int .i64 0]) ?_ 0 _ rfl; (with_reducible repeat (first | refine blk_drewN ?_ _ | refine blk_drew ?_ | refine blk_alloc ?_ _)); exact BK777.out) hb); have n4_ := Aside0.mk (below_step (by repeat (first | (with_reducible first | exact HB.out | apply below_alloc | apply pw_below_drewN | apply below_drew1 | refine bset_ ?_ (by assumption)) | exact HB.out)) hb); clear BK751; clear BK765; clear BK771; clear BK777; clear HB; have BK751 := n0_; have BK765 := n1_; have BK771 := n2_; have BK777 := n3_; have HB := n4_; clear n0_ n1_ n2_ n3_ n4_; (try clear hb); (try clear hb2); (try clear hk); (try clear hi); have hnb76 := NB751_765.out; have hnc76 := NB765_751.out; have hnb77 := NB751_771.out; have hnc77 := NB771_751.out; have hcz78_0 : w75.cell? ⟨gb751, 0, none⟩ = some (.string t746) := (blk_cell BK751.out 0).trans rfl; have hcz78_1 : w75.cell? ⟨gb751, 1, none⟩ = some (.string t747) := (blk_cell BK751.out 1).trans rfl; have hcz78_2 : w75.cell? ⟨gb751, 2, none⟩ = some (.int .i64 t748) := (blk_cell BK751.out 2).trans rfl; have hfz78_0 := blk_frozen BK751.out 0; have hfz78_1 := blk_frozen BK751.out 1; have hfz78_2 := blk_frozen BK751.out 2; have hcz79_0 : w75.cell? ⟨gb777, 0, none⟩ = some (.string t772) := (blk_cell BK777.out 0).trans rfl; have hcz79_1 : w75.cell? ⟨gb777, 1, none⟩ = some (.string t773) := (blk_cell BK777.out 1).trans rfl; have hcz79_2 : w75.cell? ⟨gb777, 2, none⟩ = some (.int .i64 t774) := (blk_cell BK777.out 2).trans rfl; have hfz79_0 := blk_frozen BK777.out 0; have hfz79_1 := blk_frozen BK777.out 1; have hfz79_2 := blk_frozen BK777.out 2))
                    go_meet
                    case rel => exact ⟨_, (((t772.size : Int) != t775)), (by first | rfl | (simp; done) | (simp [*]; done)), H', ⟨by have := HJ10.out; first | omega | exact Nat.le_refl _⟩, ⟨by (with_reducible repeat (first | refine blk_drewN ?_ _ | refine blk_drew ?_ | refine blk_alloc ?_ _)); exact BK751.out⟩, ⟨by (with_reducible repeat (first | refine blk_drewN ?_ _ | refine blk_drew ?_ | refine blk_alloc ?_ _)); exact BK765.out⟩, ⟨by (with_reducible repeat (first | refine blk_drewN ?_ _ | refine blk_drew ?_ | refine blk_alloc ?_ _)); exact BK771.out⟩, ⟨by (with_reducible repeat (first | refine blk_drewN ?_ _ | refine blk_drew ?_ | refine blk_alloc ?_ _)); exact BK777.out⟩, ⟨by repeat (first | (with_reducible first | exact HB.out | apply below_alloc | apply pw_below_drewN | apply below_drew1 | refine bset_ ?_ (by assumption)) | exact HB.out)⟩⟩
                · replace c61 := Bool.eq_false_iff.mpr c61
                  subst c61
                  have H1 : (laws_FnCrashes.j1 kj10 t749 t750 true t746 t747 t748 t772 t773 t774) = some r := by rw [if_neg (show ¬ (false = true) by decide)] at H; exact H
                  clear H
                  have H := H1
                  clear H1
                  exact absurd (H.trans (congrArg some hyes)) (laws_FnCrashes.j1_no _ _ _ _ _ _ _ _ _)
              · replace c59 := Bool.eq_false_iff.mpr c59
                subst c59
                have H1 : (laws_FnCrashes.j1 kj10 t749 t750 true t746 t747 t748 t772 t773 t774) = some r := by rw [if_neg (show ¬ (false = true) by decide)] at H; exact H
                clear H
                have H := H1
                clear H1
                exact absurd (H.trans (congrArg some hyes)) (laws_FnCrashes.j1_no _ _ _ _ _ _ _ _ _)
            case rest =>
              clear HC52
              try clear c1
              try clear c2
              try clear p2
              try clear c3
              try clear c4
              try clear c5
              try clear c6
              try clear c7
              try clear c8
              try clear c11
              try clear c14
              try clear c23
              try clear c27
              try clear c28
              try clear c30
              try clear c30b0
              try clear c30b1
              try clear c31
              try clear c31b0
              try clear c31b1
              try clear c31b2
              try clear c32
              try clear c32b0
              try clear c33
              try clear c34
              try clear c35
              try clear c36
              try clear c38
              try clear c38b0
              try clear c38b1
              try clear c39
              try clear c40
              try clear c42
              try clear c44
              try clear c45
              try clear c47
              try clear c49
              try clear c50
              try clear c55
              try clear c56
              try clear c57
              try clear c59
              try clear c61
              try clear c62
              try clear c62b0
              try clear c63
              try clear c64
              try clear c65
              try clear c68
              try clear c69
              try clear c71
              try clear c72
              try clear c73
              try clear c76
              try clear c77
              try clear c80
              try clear c81
              try clear c82
              try clear hcz14_0
              try clear hcz14_1
              try clear hcz14_2
              try clear hcz16_0
              try clear hcz16_1
              try clear hcz16_2
              try clear hcz24_0
              try clear hcz24_1
              try clear hcz24_2
              try clear hcz29_0
              try clear hcz29_1
              try clear hcz29_2
              try clear hcz35_0
              try clear hcz35_1
              try clear hcz35_2
              try clear hcz37_0
              try clear hcz37_1
              try clear hcz37_2
              try clear hcz41_0
              try clear hcz41_1
              try clear hcz41_2
              try clear hcz43_0
              try clear hcz43_1
              try clear hcz43_2
              try clear hcz46_0
              try clear hcz46_1
              try clear hcz46_2
              try clear hcz48_0
              try clear hcz48_1
              try clear hcz48_2
              try clear hcz58_0
              try clear hcz58_1
              try clear hcz58_2
              try clear hcz66_0
              try clear hcz66_1
              try clear hcz66_2
              try clear hcz70_0
              try clear hcz70_1
              try clear hcz70_2
              try clear hcz74_0
              try clear hcz74_1
              try clear hcz74_2
              try clear hcz78_0
              try clear hcz78_1
              try clear hcz78_2
              try clear hcz79_0
              try clear hcz79_1
              try clear hcz79_2
              try clear hcz83_0
              try clear hcz83_1
              try clear hcz83_2
              try clear hfz14_0
              try clear hfz14_1
              try clear hfz14_2
              try clear hfz16_0
              try clear hfz16_1
              try clear hfz16_2
              try clear hfz24_0
              try clear hfz24_1
              try clear hfz24_2
              try clear hfz29_0
              try clear hfz29_1
              try clear hfz29_2
              try clear hfz35_0
              try clear hfz35_1
              try clear hfz35_2
              try clear hfz37_0
              try clear hfz37_1
              try clear hfz37_2
              try clear hfz41_0
              try clear hfz41_1
              try clear hfz41_2
              try clear hfz43_0
              try clear hfz43_1
              try clear hfz43_2
              try clear hfz46_0
              try clear hfz46_1
              try clear hfz46_2
              try clear hfz48_0
              try clear hfz48_1
              try clear hfz48_2
              try clear hfz58_0
              try clear hfz58_1
              try clear hfz58_2
              try clear hfz66_0
              try clear hfz66_1
              try clear hfz66_2
              try clear hfz70_0
              try clear hfz70_1
              try clear hfz70_2
              try clear hfz74_0
              try clear hfz74_1
              try clear hfz74_2
              try clear hfz78_0
              try clear hfz78_1
              try clear hfz78_2
              try clear hfz79_0
              try clear hfz79_1
              try clear hfz79_2
              try clear hfz83_0
              try clear hfz83_1
              try clear hfz83_2
              try clear p2
              obtain ⟨kq, x112_51, rfl, HA, HJ51, BK751, BK765, BK771, BK777, HB⟩ := hcut
              cases kq with
              | zero => exact absurd HA.out (by simp [laws_FnCrashes.j1])
              | succ kj51 =>
                have H := HA.out
                clear HA
                simp only [laws_FnCrashes.j1] at H
                by_cases c85 : x112_51 = true
                · subst c85
                  have H1 : (some false) = some r := by rw [if_pos rfl] at H; exact H
                  clear H
                  have H := H1
                  clear H1
                  exact absurd ((Option.some.inj H).trans hyes) (by decide)
                · replace c85 := Bool.eq_false_iff.mpr c85
                  subst c85
                  have H1 : ((impl_LogRecords.f kj51 t746 t747 t748).bind fun bt779 => ((impl_LogRecords.f kj51 t772 t773 t774).bind fun bt783 => (if (bt783.1.length : Int) ≤ (bt779.1.length : Int) then (if 0 ≤ (bt783.1.length : Int) then ((laws_vRecords.f kj51 bt783.1 (bt779.1.take ((bt783.1.length : Int) : Int).toNat)).bind fun t791 => (if t791 = true then (if t750 = true then (some true) else (if t749 < (t747.size : Int) then (some true) else (some ((bt783.1.length : Int) == (bt779.1.length : Int))))) else (some false))) else (none)) else (some false)))) = some r := by rw [if_neg (show ¬ (false = true) by decide)] at H; exact H
                  clear H
                  have H := H1
                  clear H1
                  replace H := Option.bind_eq_some_iff.mp H
                  obtain ⟨⟨t779, t782⟩, A860, H⟩ := H
                  replace H : ((impl_LogRecords.f kj51 t772 t773 t774).bind fun bt783 => (if (bt783.1.length : Int) ≤ (t779.length : Int) then (if 0 ≤ (bt783.1.length : Int) then ((laws_vRecords.f kj51 bt783.1 (t779.take ((bt783.1.length : Int) : Int).toNat)).bind fun t791 => (if t791 = true then (if t750 = true then (some true) else (if t749 < (t747.size : Int) then (some true) else (some ((bt783.1.length : Int) == (t779.length : Int))))) else (some false))) else (none)) else (some false))) = some r := H
                  have A86 := Aside0.mk A860
                  clear A860
                  replace H := Option.bind_eq_some_iff.mp H
                  obtain ⟨⟨t783, t786⟩, A870, H⟩ := H
                  replace H : (if (t783.length : Int) ≤ (t779.length : Int) then (if 0 ≤ (t783.length : Int) then ((laws_vRecords.f kj51 t783 (t779.take ((t783.length : Int) : Int).toNat)).bind fun t791 => (if t791 = true then (if t750 = true then (some true) else (if t749 < (t747.size : Int) then (some true) else (some ((t783.length : Int) == (t779.length : Int))))) else (some false))) else (none)) else (some false)) = some r := H
                  have A87 := Aside0.mk A870
                  clear A870
                  by_cases c88 : (t783.length : Int) ≤ (t779.length : Int)
                  · rw [if_pos c88] at H
                    have c88b0 : decide ((t783.length : Int) ≤ (t779.length : Int)) = true := decide_eq_true c88
                    have c88b1 : decide (t783.length ≤ t779.length) = true := decide_eq_true (Int.ofNat_le.mp c88)
                    clear c88
                    by_cases c89 : 0 ≤ (t783.length : Int)
                    · rw [if_pos c89] at H
                      have c89b0 := eq_true c89
                      have c89b1 : decide (0 ≤ (t783.length : Int)) = true := decide_eq_true c89
                      clear c89
                      have c90b0 := eq_true (of_decide_eq_true (by first | (with_reducible assumption) | assumption) : (t783.length : Int) ≤ (t779.length : Int))
                      obtain ⟨y787, hy787⟩ : ∃ y_ : List (S47), y_ = (t779.take ((t783.length : Int) : Int).toNat) := ⟨_, rfl⟩
                      replace H : ((laws_vRecords.f kj51 t783 y787).bind fun t791 => (if t791 = true then (if t750 = true then (some true) else (if t749 < (t747.size : Int) then (some true) else (some ((t783.length : Int) == (t779.length : Int))))) else (some false))) = some r := by first | (rw [hy787]; with_reducible exact H) | (have H2_ := (Option.bind_some _ _).symm.trans H; rw [hy787]; with_reducible exact H2_) | (have H2_ := (Option.bind_some _ _).symm.trans H; with_reducible exact H2_) | with_reducible exact H | (rw [hy787]; exact H) | exact H
                      have Ny787 := Aside0.mk hy787
                      clear hy787
                      replace H := Option.bind_eq_some_iff.mp H
                      obtain ⟨t791, A910, H⟩ := H
                      replace H : (if t791 = true then (if t750 = true then (some true) else (if t749 < (t747.size : Int) then (some true) else (some ((t783.length : Int) == (t779.length : Int))))) else (some false)) = some r := H
                      have A91 := Aside0.mk A910
                      clear A910
                      by_cases c92 : t791 = true
                      · subst c92
                        have H1 : (if t750 = true then (some true) else (if t749 < (t747.size : Int) then (some true) else (some ((t783.length : Int) == (t779.length : Int))))) = some r := by rw [if_pos rfl] at H; exact H
                        clear H
                        have H := H1
                        clear H1
                        by_cases c93 : t750 = true
                        · subst c93
                          have H1 : (some true) = some r := by rw [if_pos rfl] at H; exact H
                          clear H
                          have H := H1
                          clear H1
                          obtain rfl := Option.some.inj H
                          have hnb94 := NB751_765.out
                          have hnc94 := NB765_751.out
                          have hnb95 := NB751_771.out
                          have hnc95 := NB771_751.out
                          have hnb96 := NB751_777.out
                          have hnc96 := NB777_751.out
                          have hcz97_0 : wc.cell? ⟨gb751, 0, none⟩ = some (.string t746) := (blk_cell BK751.out 0).trans rfl
                          have hcz97_1 : wc.cell? ⟨gb751, 1, none⟩ = some (.string t747) := (blk_cell BK751.out 1).trans rfl
                          have hcz97_2 : wc.cell? ⟨gb751, 2, none⟩ = some (.int .i64 t748) := (blk_cell BK751.out 2).trans rfl
                          have hfz97_0 := blk_frozen BK751.out 0
                          have hfz97_1 := blk_frozen BK751.out 1
                          have hfz97_2 := blk_frozen BK751.out 2
                          go_wp2_with (first | ((with_reducible refine gate_callee (f := 27) rfl ?_); refine goesL_ (some 115) rfl rfl Tryd.func27 (by kernel_rfl) rfl #[.agg #[.string t746, .string t747, .int .i64 t748]] rfl (by (try simp only [List.map_toArray, List.map_cons, List.map_nil]); first | done | rfl | (simp only [List.length_drop, List.length_take]; rfl)) ?_; (with_reducible refine (impl_LogRecords.calls kj51 t746 t747 t748 t779 t782 _ ?side1 A86.out).mono ?_); (case side1 => exact TabOK.below HT.out (by repeat (first | (with_reducible first | exact HB.out | apply below_alloc | apply pw_below_drewN | apply below_drew1 | refine bset_ ?_ (by assumption)) | exact HB.out))); rintro e w98 ⟨v780, rfl, ho0, hb⟩; refine ⟨_, rfl, ?_⟩; have n0_ := Aside0.mk (Kd.R_lower ho0 (below_size (by repeat (first | (with_reducible first | exact HB.out | apply below_alloc | apply pw_below_drewN | apply below_drew1 | refine bset_ ?_ (by assumption)) | exact HB.out)))); have n1_ := Aside0.mk (blk_below (g := gb751) (o := .cells #[.string t746, .string t747, .int .i64 t748] 38 (0, 0)) (by (with_reducible repeat (first | refine blk_drewN ?_ _ | refine blk_drew ?_ | refine blk_alloc ?_ _)); exact BK751.out) hb); have n2_ := Aside0.mk (blk_below (g := gb765) (o := .cells #[.string t760, .string t761, .int .i64 t762] 38 (0, 0)) (by (with_reducible repeat (first | refine blk_drewN ?_ _ | refine blk_drew ?_ | refine blk_alloc ?_ _)); exact BK765.out) hb); have n3_ := Aside0.mk (blk_below (g := gb771) (o := .cells #[.string t766, .string t767, .int .i64 t768] 38 (0, 0)) (by (with_reducible repeat (first | refine blk_drewN ?_ _ | refine blk_drew ?_ | refine blk_alloc ?_ _)); exact BK771.out) hb); have n4_ := Aside0.mk (blk_below (g := gb777) (o := .cells #[.string t772, .string t773, .int .i64 t774] 38 (0, 0)) (by (with_reducible repeat (first | refine blk_drewN ?_ _ | refine blk_drew ?_ | refine blk_alloc ?_ _)); exact BK777.out) hb); have n5_ := Aside0.mk (below_step (by repeat (first | (with_reducible first | exact HB.out | apply below_alloc | apply pw_below_drewN | apply below_drew1 | refine bset_ ?_ (by assumption)) | exact HB.out)) hb); clear BK751; clear BK765; clear BK771; clear BK777; clear HB; have HO781 := n0_; have BK751 := n1_; have BK765 := n2_; have BK771 := n3_; have BK777 := n4_; have HB := n5_; clear n0_ n1_ n2_ n3_ n4_ n5_; (try clear hb); (try clear hb2); (try clear hk); (try clear hi); (try clear ho0); have hnb99 := NB777_765.out; have hnc99 := NB765_777.out; have hnb100 := NB777_771.out; have hnc100 := NB771_777.out; have hcz101_0 : w98.cell? ⟨gb777, 0, none⟩ = some (.string t772) := (blk_cell BK777.out 0).trans rfl; have hcz101_1 : w98.cell? ⟨gb777, 1, none⟩ = some (.string t773) := (blk_cell BK777.out 1).trans rfl; have hcz101_2 : w98.cell? ⟨gb777, 2, none⟩ = some (.int .i64 t774) := (blk_cell BK777.out 2).trans rfl; have hfz101_0 := blk_frozen BK777.out 0; have hfz101_1 := blk_frozen BK777.out 1; have hfz101_2 := blk_frozen BK777.out 2) | ((with_reducible refine gate_callee (f := 27) rfl ?_); refine goesL_ (some 120) rfl rfl Tryd.func27 (by kernel_rfl) rfl #[.agg #[.string t772, .string t773, .int .i64 t774]] rfl (by (try simp only [List.map_toArray, List.map_cons, List.map_nil]); first | done | rfl | (simp only [List.length_drop, List.length_take]; rfl)) ?_; (with_reducible refine (impl_LogRecords.calls kj51 t772 t773 t774 t783 t786 _ ?side1 A87.out).mono ?_); (case side1 => exact TabOK.below HT.out (by repeat (first | (with_reducible first | exact HB.out | apply below_alloc | apply pw_below_drewN | apply below_drew1 | refine bset_ ?_ (by assumption)) | exact HB.out))); rintro e w102 ⟨v784, rfl, ho0, hb⟩; refine ⟨_, rfl, ?_⟩; have n0_ := Aside0.mk (Kd.R_elder' (by (with_reducible repeat (first | apply Kd.R_alloc | apply Kd.R_drewN | apply Kd.R_drew)); exact HO781.out) (Kd.R_base ho0) hb); have n1_ := Aside0.mk (Kd.R_lower (Kd.R_new' ho0 (Kd.R_lt (by (with_reducible repeat (first | apply Kd.R_alloc | apply Kd.R_drewN | apply Kd.R_drew)); exact HO781.out))) (below_size (by repeat (first | (with_reducible first | exact HB.out | apply below_alloc | apply pw_below_drewN | apply below_drew1 | refine bset_ ?_ (by assumption)) | exact HB.out)))); have n2_ := Aside0.mk (blk_below (g := gb751) (o := .cells #[.string t746, .string t747, .int .i64 t748] 38 (0, 0)) (by (with_reducible repeat (first | refine blk_drewN ?_ _ | refine blk_drew ?_ | refine blk_alloc ?_ _)); exact BK751.out) hb); have n3_ := Aside0.mk (blk_below (g := gb765) (o := .cells #[.string t760, .string t761, .int .i64 t762] 38 (0, 0)) (by (with_reducible repeat (first | refine blk_drewN ?_ _ | refine blk_drew ?_ | refine blk_alloc ?_ _)); exact BK765.out) hb); have n4_ := Aside0.mk (blk_below (g := gb771) (o := .cells #[.string t766, .string t767, .int .i64 t768] 38 (0, 0)) (by (with_reducible repeat (first | refine blk_drewN ?_ _ | refine blk_drew ?_ | refine blk_alloc ?_ _)); exact BK771.out) hb); have n5_ := Aside0.mk (blk_below (g := gb777) (o := .cells #[.string t772, .string t773, .int .i64 t774] 38 (0, 0)) (by (with_reducible repeat (first | refine blk_drewN ?_ _ | refine blk_drew ?_ | refine blk_alloc ?_ _)); exact BK777.out) hb); have n6_ := Aside0.mk (below_step (by repeat (first | (with_reducible first | exact HB.out | apply below_alloc | apply pw_below_drewN | apply below_drew1 | refine bset_ ?_ (by assumption)) | exact HB.out)) hb); clear HO781; clear BK751; clear BK765; clear BK771; clear BK777; clear HB; have HO781 := n0_; have HO785 := n1_; have BK751 := n2_; have BK765 := n3_; have BK771 := n4_; have BK777 := n5_; have HB := n6_; clear n0_ n1_ n2_ n3_ n4_ n5_ n6_; (try clear hb); (try clear hb2); (try clear hk); (try clear hi); (try clear ho0); obtain ⟨Ao103, co103, eo103⟩ := Kd.R_slice HO785.out; subst eo103; obtain ⟨Ao104, co104, eo104⟩ := Kd.R_slice HO781.out; subst eo104; have q105 : ((t783.length : Int) : Int) ≤ ((t779.length : Int) : Int) := of_decide_eq_true (by first | (with_reducible assumption) | assumption); obtain ⟨i0105, hi0105, _, hsz105, _⟩ := info_parts info47; have hroom105 : t779.length ≤ co104 := (Kd.R_reads' HO781.out).2.1; have hC105 : Kd.C k47 _ Ao104 t779.length t779 := (Kd.R_reads' HO781.out).2.2; have hcut105 := cut_to (P := Tryd.prog) 63 47 .i64 Tryd.underlying63 hi0105 Ao104 t779.length co104 (t783.length : Int) (of_decide_eq_true (by first | (with_reducible assumption) | assumption)) q105 hroom105; have hr105 := Kd.C_take (m := ((t783.length : Int) : Int).toNat) hC105 (by omega); have hy105 : y787.length = ((t783.length : Int) : Int).toNat := (by rw [Ny787.out, List.length_take]; omega); rw [← Ny787.out] at hr105; rw [← hy105] at hcut105; have HR790 := Aside0.mk hr105; have HC790 := Aside0.mk (show y787.length ≤ co104 from by omega); clear hr105 hC105 hroom105 hi0105 hsz105; have KY105 := Aside0.mk hy105; clear hy105; have KL105 := Aside0.mk (show ((t783.length : Int) : Int).toNat ≤ t779.length from by omega); replace q105 := eq_true q105) | (go_at_call 29; (with_reducible refine (laws_vRecords.calls kj51 _ _ t783 _ _ y787 true _ ?side1 ?side2 ?side3 ?side4 A91.out).mono ?_); (case side1 => repeat (first | exact (Kd.R_reads' HO785.out).2.2 | (with_reducible refine Kd.C_alloc ?_ _) | (with_reducible refine Kd.C_drewN ?_ _) | (with_reducible refine Kd.C_drew ?_))); (case side2 => exact (Kd.R_reads' HO785.out).2.1); (case side3 => repeat (first | exact (by repeat (first | (with_reducible exact HR790.out) | (with_reducible refine Kd.C_alloc ?_ _) | (with_reducible refine Kd.C_drewN ?_ _) | (with_reducible refine Kd.C_drew ?_) | exact HR790.out)) | (with_reducible refine Kd.C_alloc ?_ _) | (with_reducible refine Kd.C_drewN ?_ _) | (with_reducible refine Kd.C_drew ?_))); (case side4 => exact HC790.out); rintro e w' ⟨rfl, ⟨nd, rfl⟩⟩))
                          go_ret
                          exact ⟨by first | rfl | (simp [errW_none, errW_some] <;> rfl) | (simp [*, errW_none, errW_some] <;> rfl), by repeat (first | (with_reducible first | exact HB.out | apply below_alloc | apply pw_below_drewN | apply below_drew1 | refine bset_ ?_ (by assumption)) | exact HB.out)⟩
                        · replace c93 := Bool.eq_false_iff.mpr c93
                          subst c93
                          have H1 : (if t749 < (t747.size : Int) then (some true) else (some ((t783.length : Int) == (t779.length : Int)))) = some r := by rw [if_neg (show ¬ (false = true) by decide)] at H; exact H
                          clear H
                          have H := H1
                          clear H1
                          by_cases c106 : t749 < (t747.size : Int)
                          · rw [if_pos c106] at H
                            have c106b0 : decide (t749 < (t747.size : Int)) = true := decide_eq_true c106
                            clear c106
                            obtain rfl := Option.some.inj H
                            have hnb107 := NB751_765.out
                            have hnc107 := NB765_751.out
                            have hnb108 := NB751_771.out
                            have hnc108 := NB771_751.out
                            have hnb109 := NB751_777.out
                            have hnc109 := NB777_751.out
                            have hcz110_0 : wc.cell? ⟨gb751, 0, none⟩ = some (.string t746) := (blk_cell BK751.out 0).trans rfl
                            have hcz110_1 : wc.cell? ⟨gb751, 1, none⟩ = some (.string t747) := (blk_cell BK751.out 1).trans rfl
                            have hcz110_2 : wc.cell? ⟨gb751, 2, none⟩ = some (.int .i64 t748) := (blk_cell BK751.out 2).trans rfl
                            have hfz110_0 := blk_frozen BK751.out 0
                            have hfz110_1 := blk_frozen BK751.out 1
                            have hfz110_2 := blk_frozen BK751.out 2
                            go_wp2_with (first | ((with_reducible refine gate_callee (f := 27) rfl ?_); refine goesL_ (some 115) rfl rfl Tryd.func27 (by kernel_rfl) rfl #[.agg #[.string t746, .string t747, .int .i64 t748]] rfl (by (try simp only [List.map_toArray, List.map_cons, List.map_nil]); first | done | rfl | (simp only [List.length_drop, List.length_take]; rfl)) ?_; (with_reducible refine (impl_LogRecords.calls kj51 t746 t747 t748 t779 t782 _ ?side1 A86.out).mono ?_); (case side1 => exact TabOK.below HT.out (by repeat (first | (with_reducible first | exact HB.out | apply below_alloc | apply pw_below_drewN | apply below_drew1 | refine bset_ ?_ (by assumption)) | exact HB.out))); rintro e w111 ⟨v780, rfl, ho0, hb⟩; refine ⟨_, rfl, ?_⟩; have n0_ := Aside0.mk (Kd.R_lower ho0 (below_size (by repeat (first | (with_reducible first | exact HB.out | apply below_alloc | apply pw_below_drewN | apply below_drew1 | refine bset_ ?_ (by assumption)) | exact HB.out)))); have n1_ := Aside0.mk (blk_below (g := gb751) (o := .cells #[.string t746, .string t747, .int .i64 t748] 38 (0, 0)) (by (with_reducible repeat (first | refine blk_drewN ?_ _ | refine blk_drew ?_ | refine blk_alloc ?_ _)); exact BK751.out) hb); have n2_ := Aside0.mk (blk_below (g := gb765) (o := .cells #[.string t760, .string t761, .int .i64 t762] 38 (0, 0)) (by (with_reducible repeat (first | refine blk_drewN ?_ _ | refine blk_drew ?_ | refine blk_alloc ?_ _)); exact BK765.out) hb); have n3_ := Aside0.mk (blk_below (g := gb771) (o := .cells #[.string t766, .string t767, .int .i64 t768] 38 (0, 0)) (by (with_reducible repeat (first | refine blk_drewN ?_ _ | refine blk_drew ?_ | refine blk_alloc ?_ _)); exact BK771.out) hb); have n4_ := Aside0.mk (blk_below (g := gb777) (o := .cells #[.string t772, .string t773, .int .i64 t774] 38 (0, 0)) (by (with_reducible repeat (first | refine blk_drewN ?_ _ | refine blk_drew ?_ | refine blk_alloc ?_ _)); exact BK777.out) hb); have n5_ := Aside0.mk (below_step (by repeat (first | (with_reducible first | exact HB.out | apply below_alloc | apply pw_below_drewN | apply below_drew1 | refine bset_ ?_ (by assumption)) | exact HB.out)) hb); clear BK751; clear BK765; clear BK771; clear BK777; clear HB; have HO781 := n0_; have BK751 := n1_; have BK765 := n2_; have BK771 := n3_; have BK777 := n4_; have HB := n5_; clear n0_ n1_ n2_ n3_ n4_ n5_; (try clear hb); (try clear hb2); (try clear hk); (try clear hi); (try clear ho0); have hnb112 := NB777_765.out; have hnc112 := NB765_777.out; have hnb113 := NB777_771.out; have hnc113 := NB771_777.out; have hcz114_0 : w111.cell? ⟨gb777, 0, none⟩ = some (.string t772) := (blk_cell BK777.out 0).trans rfl; have hcz114_1 : w111.cell? ⟨gb777, 1, none⟩ = some (.string t773) := (blk_cell BK777.out 1).trans rfl; have hcz114_2 : w111.cell? ⟨gb777, 2, none⟩ = some (.int .i64 t774) := (blk_cell BK777.out 2).trans rfl; have hfz114_0 := blk_frozen BK777.out 0; have hfz114_1 := blk_frozen BK777.out 1; have hfz114_2 := blk_frozen BK777.out 2) | ((with_reducible refine gate_callee (f := 27) rfl ?_); refine goesL_ (some 120) rfl rfl Tryd.func27 (by kernel_rfl) rfl #[.agg #[.string t772, .string t773, .int .i64 t774]] rfl (by (try simp only [List.map_toArray, List.map_cons, List.map_nil]); first | done | rfl | (simp only [List.length_drop, List.length_take]; rfl)) ?_; (with_reducible refine (impl_LogRecords.calls kj51 t772 t773 t774 t783 t786 _ ?side1 A87.out).mono ?_); (case side1 => exact TabOK.below HT.out (by repeat (first | (with_reducible first | exact HB.out | apply below_alloc | apply pw_below_drewN | apply below_drew1 | refine bset_ ?_ (by assumption)) | exact HB.out))); rintro e w115 ⟨v784, rfl, ho0, hb⟩; refine ⟨_, rfl, ?_⟩; have n0_ := Aside0.mk (Kd.R_elder' (by (with_reducible repeat (first | apply Kd.R_alloc | apply Kd.R_drewN | apply Kd.R_drew)); exact HO781.out) (Kd.R_base ho0) hb); have n1_ := Aside0.mk (Kd.R_lower (Kd.R_new' ho0 (Kd.R_lt (by (with_reducible repeat (first | apply Kd.R_alloc | apply Kd.R_drewN | apply Kd.R_drew)); exact HO781.out))) (below_size (by repeat (first | (with_reducible first | exact HB.out | apply below_alloc | apply pw_below_drewN | apply below_drew1 | refine bset_ ?_ (by assumption)) | exact HB.out)))); have n2_ := Aside0.mk (blk_below (g := gb751) (o := .cells #[.string t746, .string t747, .int .i64 t748] 38 (0, 0)) (by (with_reducible repeat (first | refine blk_drewN ?_ _ | refine blk_drew ?_ | refine blk_alloc ?_ _)); exact BK751.out) hb); have n3_ := Aside0.mk (blk_below (g := gb765) (o := .cells #[.string t760, .string t761, .int .i64 t762] 38 (0, 0)) (by (with_reducible repeat (first | refine blk_drewN ?_ _ | refine blk_drew ?_ | refine blk_alloc ?_ _)); exact BK765.out) hb); have n4_ := Aside0.mk (blk_below (g := gb771) (o := .cells #[.string t766, .string t767, .int .i64 t768] 38 (0, 0)) (by (with_reducible repeat (first | refine blk_drewN ?_ _ | refine blk_drew ?_ | refine blk_alloc ?_ _)); exact BK771.out) hb); have n5_ := Aside0.mk (blk_below (g := gb777) (o := .cells #[.string t772, .string t773, .int .i64 t774] 38 (0, 0)) (by (with_reducible repeat (first | refine blk_drewN ?_ _ | refine blk_drew ?_ | refine blk_alloc ?_ _)); exact BK777.out) hb); have n6_ := Aside0.mk (below_step (by repeat (first | (with_reducible first | exact HB.out | apply below_alloc | apply pw_below_drewN | apply below_drew1 | refine bset_ ?_ (by assumption)) | exact HB.out)) hb); clear HO781; clear BK751; clear BK765; clear BK771; clear BK777; clear HB; have HO781 := n0_; have HO785 := n1_; have BK751 := n2_; have BK765 := n3_; have BK771 := n4_; have BK777 := n5_; have HB := n6_; clear n0_ n1_ n2_ n3_ n4_ n5_ n6_; (try clear hb); (try clear hb2); (try clear hk); (try clear hi); (try clear ho0); obtain ⟨Ao116, co116, eo116⟩ := Kd.R_slice HO785.out; subst eo116; obtain ⟨Ao117, co117, eo117⟩ := Kd.R_slice HO781.out; subst eo117; have q118 : ((t783.length : Int) : Int) ≤ ((t779.length : Int) : Int) := of_decide_eq_true (by first | (with_reducible assumption) | assumption); obtain ⟨i0118, hi0118, _, hsz118, _⟩ := info_parts info47; have hroom118 : t779.length ≤ co117 := (Kd.R_reads' HO781.out).2.1; have hC118 : Kd.C k47 _ Ao117 t779.length t779 := (Kd.R_reads' HO781.out).2.2; have hcut118 := cut_to (P := Tryd.prog) 63 47 .i64 Tryd.underlying63 hi0118 Ao117 t779.length co117 (t783.length : Int) (of_decide_eq_true (by first | (with_reducible assumption) | assumption)) q118 hroom118; have hr118 := Kd.C_take (m := ((t783.length : Int) : Int).toNat) hC118 (by omega); have hy118 : y787.length = ((t783.length : Int) : Int).toNat := (by rw [Ny787.out, List.length_take]; omega); rw [← Ny787.out] at hr118; rw [← hy118] at hcut118; have HR790 := Aside0.mk hr118; have HC790 := Aside0.mk (show y787.length ≤ co117 from by omega); clear hr118 hC118 hroom118 hi0118 hsz118; have KY118 := Aside0.mk hy118; clear hy118; have KL118 := Aside0.mk (show ((t783.length : Int) : Int).toNat ≤ t779.length from by omega); replace q118 := eq_true q118) | (go_at_call 29; (with_reducible refine (laws_vRecords.calls kj51 _ _ t783 _ _ y787 true _ ?side1 ?side2 ?side3 ?side4 A91.out).mono ?_); (case side1 => repeat (first | exact (Kd.R_reads' HO785.out).2.2 | (with_reducible refine Kd.C_alloc ?_ _) | (with_reducible refine Kd.C_drewN ?_ _) | (with_reducible refine Kd.C_drew ?_))); (case side2 => exact (Kd.R_reads' HO785.out).2.1); (case side3 => repeat (first | exact (by repeat (first | (with_reducible exact HR790.out) | (with_reducible refine Kd.C_alloc ?_ _) | (with_reducible refine Kd.C_drewN ?_ _) | (with_reducible refine Kd.C_drew ?_) | exact HR790.out)) | (with_reducible refine Kd.C_alloc ?_ _) | (with_reducible refine Kd.C_drewN ?_ _) | (with_reducible refine Kd.C_drew ?_))); (case side4 => exact HC790.out); rintro e w' ⟨rfl, ⟨nd, rfl⟩⟩; have hcz119_0 : w115.cell? ⟨gb751, 0, none⟩ = some (.string t746) := (blk_cell BK751.out 0).trans rfl; have hcz119_1 : w115.cell? ⟨gb751, 1, none⟩ = some (.string t747) := (blk_cell BK751.out 1).trans rfl; have hcz119_2 : w115.cell? ⟨gb751, 2, none⟩ = some (.int .i64 t748) := (blk_cell BK751.out 2).trans rfl; have hfz119_0 := blk_frozen BK751.out 0; have hfz119_1 := blk_frozen BK751.out 1; have hfz119_2 := blk_frozen BK751.out 2))
                            go_ret
                            exact ⟨by first | rfl | (simp [errW_none, errW_some] <;> rfl) | (simp [*, errW_none, errW_some] <;> rfl), by repeat (first | (with_reducible first | exact HB.out | apply below_alloc | apply pw_below_drewN | apply below_drew1 | refine bset_ ?_ (by assumption)) | exact HB.out)⟩
                          · rw [if_neg c106] at H
                            have c106b0 : decide (t749 < (t747.size : Int)) = false := decide_eq_false c106
                            clear c106
                            obtain rfl := Option.some.inj H
                            have hnb120 := NB751_765.out
                            have hnc120 := NB765_751.out
                            have hnb121 := NB751_771.out
                            have hnc121 := NB771_751.out
                            have hnb122 := NB751_777.out
                            have hnc122 := NB777_751.out
                            have hcz123_0 : wc.cell? ⟨gb751, 0, none⟩ = some (.string t746) := (blk_cell BK751.out 0).trans rfl
                            have hcz123_1 : wc.cell? ⟨gb751, 1, none⟩ = some (.string t747) := (blk_cell BK751.out 1).trans rfl
                            have hcz123_2 : wc.cell? ⟨gb751, 2, none⟩ = some (.int .i64 t748) := (blk_cell BK751.out 2).trans rfl
                            have hfz123_0 := blk_frozen BK751.out 0
                            have hfz123_1 := blk_frozen BK751.out 1
                            have hfz123_2 := blk_frozen BK751.out 2
                            go_wp2_with (first | ((with_reducible refine gate_callee (f := 27) rfl ?_); refine goesL_ (some 115) rfl rfl Tryd.func27 (by kernel_rfl) rfl #[.agg #[.string t746, .string t747, .int .i64 t748]] rfl (by (try simp only [List.map_toArray, List.map_cons, List.map_nil]); first | done | rfl | (simp only [List.length_drop, List.length_take]; rfl)) ?_; (with_reducible refine (impl_LogRecords.calls kj51 t746 t747 t748 t779 t782 _ ?side1 A86.out).mono ?_); (case side1 => exact TabOK.below HT.out (by repeat (first | (with_reducible first | exact HB.out | apply below_alloc | apply pw_below_drewN | apply below_drew1 | refine bset_ ?_ (by assumption)) | exact HB.out))); rintro e w124 ⟨v780, rfl, ho0, hb⟩; refine ⟨_, rfl, ?_⟩; have n0_ := Aside0.mk (Kd.R_lower ho0 (below_size (by repeat (first | (with_reducible first | exact HB.out | apply below_alloc | apply pw_below_drewN | apply below_drew1 | refine bset_ ?_ (by assumption)) | exact HB.out)))); have n1_ := Aside0.mk (blk_below (g := gb751) (o := .cells #[.string t746, .string t747, .int .i64 t748] 38 (0, 0)) (by (with_reducible repeat (first | refine blk_drewN ?_ _ | refine blk_drew ?_ | refine blk_alloc ?_ _)); exact BK751.out) hb); have n2_ := Aside0.mk (blk_below (g := gb765) (o := .cells #[.string t760, .string t761, .int .i64 t762] 38 (0, 0)) (by (with_reducible repeat (first | refine blk_drewN ?_ _ | refine blk_drew ?_ | refine blk_alloc ?_ _)); exact BK765.out) hb); have n3_ := Aside0.mk (blk_below (g := gb771) (o := .cells #[.string t766, .string t767, .int .i64 t768] 38 (0, 0)) (by (with_reducible repeat (first | refine blk_drewN ?_ _ | refine blk_drew ?_ | refine blk_alloc ?_ _)); exact BK771.out) hb); have n4_ := Aside0.mk (blk_below (g := gb777) (o := .cells #[.string t772, .string t773, .int .i64 t774] 38 (0, 0)) (by (with_reducible repeat (first | refine blk_drewN ?_ _ | refine blk_drew ?_ | refine blk_alloc ?_ _)); exact BK777.out) hb); have n5_ := Aside0.mk (below_step (by repeat (first | (with_reducible first | exact HB.out | apply below_alloc | apply pw_below_drewN | apply below_drew1 | refine bset_ ?_ (by assumption)) | exact HB.out)) hb); clear BK751; clear BK765; clear BK771; clear BK777; clear HB; have HO781 := n0_; have BK751 := n1_; have BK765 := n2_; have BK771 := n3_; have BK777 := n4_; have HB := n5_; clear n0_ n1_ n2_ n3_ n4_ n5_; (try clear hb); (try clear hb2); (try clear hk); (try clear hi); (try clear ho0); have hnb125 := NB777_765.out; have hnc125 := NB765_777.out; have hnb126 := NB777_771.out; have hnc126 := NB771_777.out; have hcz127_0 : w124.cell? ⟨gb777, 0, none⟩ = some (.string t772) := (blk_cell BK777.out 0).trans rfl; have hcz127_1 : w124.cell? ⟨gb777, 1, none⟩ = some (.string t773) := (blk_cell BK777.out 1).trans rfl; have hcz127_2 : w124.cell? ⟨gb777, 2, none⟩ = some (.int .i64 t774) := (blk_cell BK777.out 2).trans rfl; have hfz127_0 := blk_frozen BK777.out 0; have hfz127_1 := blk_frozen BK777.out 1; have hfz127_2 := blk_frozen BK777.out 2) | ((with_reducible refine gate_callee (f := 27) rfl ?_); refine goesL_ (some 120) rfl rfl Tryd.func27 (by kernel_rfl) rfl #[.agg #[.string t772, .string t773, .int .i64 t774]] rfl (by (try simp only [List.map_toArray, List.map_cons, List.map_nil]); first | done | rfl | (simp only [List.length_drop, List.length_take]; rfl)) ?_; (with_reducible refine (impl_LogRecords.calls kj51 t772 t773 t774 t783 t786 _ ?side1 A87.out).mono ?_); (case side1 => exact TabOK.below HT.out (by repeat (first | (with_reducible first | exact HB.out | apply below_alloc | apply pw_below_drewN | apply below_drew1 | refine bset_ ?_ (by assumption)) | exact HB.out))); rintro e w128 ⟨v784, rfl, ho0, hb⟩; refine ⟨_, rfl, ?_⟩; have n0_ := Aside0.mk (Kd.R_elder' (by (with_reducible repeat (first | apply Kd.R_alloc | apply Kd.R_drewN | apply Kd.R_drew)); exact HO781.out) (Kd.R_base ho0) hb); have n1_ := Aside0.mk (Kd.R_lower (Kd.R_new' ho0 (Kd.R_lt (by (with_reducible repeat (first | apply Kd.R_alloc | apply Kd.R_drewN | apply Kd.R_drew)); exact HO781.out))) (below_size (by repeat (first | (with_reducible first | exact HB.out | apply below_alloc | apply pw_below_drewN | apply below_drew1 | refine bset_ ?_ (by assumption)) | exact HB.out)))); have n2_ := Aside0.mk (blk_below (g := gb751) (o := .cells #[.string t746, .string t747, .int .i64 t748] 38 (0, 0)) (by (with_reducible repeat (first | refine blk_drewN ?_ _ | refine blk_drew ?_ | refine blk_alloc ?_ _)); exact BK751.out) hb); have n3_ := Aside0.mk (blk_below (g := gb765) (o := .cells #[.string t760, .string t761, .int .i64 t762] 38 (0, 0)) (by (with_reducible repeat (first | refine blk_drewN ?_ _ | refine blk_drew ?_ | refine blk_alloc ?_ _)); exact BK765.out) hb); have n4_ := Aside0.mk (blk_below (g := gb771) (o := .cells #[.string t766, .string t767, .int .i64 t768] 38 (0, 0)) (by (with_reducible repeat (first | refine blk_drewN ?_ _ | refine blk_drew ?_ | refine blk_alloc ?_ _)); exact BK771.out) hb); have n5_ := Aside0.mk (blk_below (g := gb777) (o := .cells #[.string t772, .string t773, .int .i64 t774] 38 (0, 0)) (by (with_reducible repeat (first | refine blk_drewN ?_ _ | refine blk_drew ?_ | refine blk_alloc ?_ _)); exact BK777.out) hb); have n6_ := Aside0.mk (below_step (by repeat (first | (with_reducible first | exact HB.out | apply below_alloc | apply pw_below_drewN | apply below_drew1 | refine bset_ ?_ (by assumption)) | exact HB.out)) hb); clear HO781; clear BK751; clear BK765; clear BK771; clear BK777; clear HB; have HO781 := n0_; have HO785 := n1_; have BK751 := n2_; have BK765 := n3_; have BK771 := n4_; have BK777 := n5_; have HB := n6_; clear n0_ n1_ n2_ n3_ n4_ n5_ n6_; (try clear hb); (try clear hb2); (try clear hk); (try clear hi); (try clear ho0); obtain ⟨Ao129, co129, eo129⟩ := Kd.R_slice HO785.out; subst eo129; obtain ⟨Ao130, co130, eo130⟩ := Kd.R_slice HO781.out; subst eo130; have q131 : ((t783.length : Int) : Int) ≤ ((t779.length : Int) : Int) := of_decide_eq_true (by first | (with_reducible assumption) | assumption); obtain ⟨i0131, hi0131, _, hsz131, _⟩ := info_parts info47; have hroom131 : t779.length ≤ co130 := (Kd.R_reads' HO781.out).2.1; have hC131 : Kd.C k47 _ Ao130 t779.length t779 := (Kd.R_reads' HO781.out).2.2; have hcut131 := cut_to (P := Tryd.prog) 63 47 .i64 Tryd.underlying63 hi0131 Ao130 t779.length co130 (t783.length : Int) (of_decide_eq_true (by first | (with_reducible assumption) | assumption)) q131 hroom131; have hr131 := Kd.C_take (m := ((t783.length : Int) : Int).toNat) hC131 (by omega); have hy131 : y787.length = ((t783.length : Int) : Int).toNat := (by rw [Ny787.out, List.length_take]; omega); rw [← Ny787.out] at hr131; rw [← hy131] at hcut131; have HR790 := Aside0.mk hr131; have HC790 := Aside0.mk (show y787.length ≤ co130 from by omega); clear hr131 hC131 hroom131 hi0131 hsz131; have KY131 := Aside0.mk hy131; clear hy131; have KL131 := Aside0.mk (show ((t783.length : Int) : Int).toNat ≤ t779.length from by omega); replace q131 := eq_true q131) | (go_at_call 29; (with_reducible refine (laws_vRecords.calls kj51 _ _ t783 _ _ y787 true _ ?side1 ?side2 ?side3 ?side4 A91.out).mono ?_); (case side1 => repeat (first | exact (Kd.R_reads' HO785.out).2.2 | (with_reducible refine Kd.C_alloc ?_ _) | (with_reducible refine Kd.C_drewN ?_ _) | (with_reducible refine Kd.C_drew ?_))); (case side2 => exact (Kd.R_reads' HO785.out).2.1); (case side3 => repeat (first | exact (by repeat (first | (with_reducible exact HR790.out) | (with_reducible refine Kd.C_alloc ?_ _) | (with_reducible refine Kd.C_drewN ?_ _) | (with_reducible refine Kd.C_drew ?_) | exact HR790.out)) | (with_reducible refine Kd.C_alloc ?_ _) | (with_reducible refine Kd.C_drewN ?_ _) | (with_reducible refine Kd.C_drew ?_))); (case side4 => exact HC790.out); rintro e w' ⟨rfl, ⟨nd, rfl⟩⟩; have hcz132_0 : w128.cell? ⟨gb751, 0, none⟩ = some (.string t746) := (blk_cell BK751.out 0).trans rfl; have hcz132_1 : w128.cell? ⟨gb751, 1, none⟩ = some (.string t747) := (blk_cell BK751.out 1).trans rfl; have hcz132_2 : w128.cell? ⟨gb751, 2, none⟩ = some (.int .i64 t748) := (blk_cell BK751.out 2).trans rfl; have hfz132_0 := blk_frozen BK751.out 0; have hfz132_1 := blk_frozen BK751.out 1; have hfz132_2 := blk_frozen BK751.out 2))
                            go_ret
                            exact ⟨by first | rfl | (simp [errW_none, errW_some] <;> rfl) | (simp [*, errW_none, errW_some] <;> rfl), by repeat (first | (with_reducible first | exact HB.out | apply below_alloc | apply pw_below_drewN | apply below_drew1 | refine bset_ ?_ (by assumption)) | exact HB.out)⟩
                      · replace c92 := Bool.eq_false_iff.mpr c92
                        subst c92
                        have H1 : (some false) = some r := by rw [if_neg (show ¬ (false = true) by decide)] at H; exact H
                        clear H
                        have H := H1
                        clear H1
                        exact absurd ((Option.some.inj H).trans hyes) (by decide)
                    · rw [if_neg c89] at H
                      exact absurd H (by simp)
                  · rw [if_neg c88] at H
                    have c88b0 : decide ((t783.length : Int) ≤ (t779.length : Int)) = false := decide_eq_false c88
                    have c88b1 : decide (t783.length ≤ t779.length) = false := decide_eq_false (fun h => c88 (Int.ofNat_le.mpr h))
                    clear c88
                    exact absurd ((Option.some.inj H).trans hyes) (by decide)
          · replace c50 := Bool.eq_false_iff.mpr c50
            subst c50
            have H1 : (some true) = some r := by rw [if_neg (show ¬ (false = true) by decide)] at H; exact H
            clear H
            have H := H1
            clear H1
            obtain rfl := Option.some.inj H
            go_wp2
            go_ret
            exact ⟨by first | rfl | (simp [errW_none, errW_some] <;> rfl) | (simp [*, errW_none, errW_some] <;> rfl), by repeat (first | (with_reducible first | exact HB.out | apply below_alloc | apply pw_below_drewN | apply below_drew1 | refine bset_ ?_ (by assumption)) | exact HB.out)⟩
end Go.Proofs.YtaceoijcjkbgfaaDoor.P
namespace Go.Proofs.YtaceoijcjkbgfaaDoor.P
open Go.RowKit Go.Proofs.YtaceoijcjkbgfaaDoorW.PrintWords Go.Proofs.YtaceoijcjkbgfaaDoorW.PrintLast Go.Proofs.YtaceoijcjkbgfaaDoorW.PrintMore
set_option linter.unusedVariables false
set_option linter.unusedSimpArgs false

theorem Ter.if_eq {α : Type} {c : Prop} [Decidable c] {F G : Nat → Option α} {r : α} (h1 : c → Ter F r) (h2 : ¬ c → Ter G r) : Ter (fun k => if c then F k else G k) r := by
  by_cases h : c
  · exact Ter.ifp h (h1 h)
  · exact Ter.ifn h (h2 h)

theorem lIn_is (a b c : Int) : spec_l1In.f a b c = some (decide (b ≤ a) && decide (a ≤ c)) := by
  unfold spec_l1In.f
  by_cases h1 : b ≤ a <;> by_cases h2 : a ≤ c <;> simp [h1, h2] <;> omega

theorem lWithin_is (a b c : Int) : impl_within.f a b c = some (decide (b ≤ a) && decide (a ≤ c)) := by
  unfold impl_within.f
  by_cases h1 : b ≤ a <;> by_cases h2 : a ≤ c <;> simp [h1, h2] <;> omega

theorem drop_at {l : Bs} {i : Nat} (h : i < l.length) : l.drop i = l[i] :: l.drop (i + 1) := List.drop_eq_getElem_cons h

theorem tmod_is {a b : Int} (h : 0 ≤ a) : Int.tmod a b = a % b := Int.tmod_eq_emod_of_nonneg h

theorem sum_step {h : Int} {x : UInt8} (h0 : 0 ≤ h) (h1 : h < 999979) : Int.tmod (wrap64 ((wrap64 ((wrap64 (41 * h)) + (wrap64 (x.toNat : Int)))) + 1)) 999979 = (41 * h + (x.toNat : Int) + 1) % 999979 := by
  have hx := byte_lt x
  rw [w64 (n := 41 * h) (by omega) (by omega), w64 (n := (x.toNat : Int)) (by omega) (by omega), w64 (n := 41 * h + (x.toNat : Int)) (by omega) (by omega), w64 (by omega) (by omega), tmod_is (by omega)]

theorem checksum_is {l : Bs} (hl : l.length ≤ 1152921504606846976) : Ter (fun k => impl_checksum.f k (bs l)) (sumL 7 l) := by
  unfold impl_checksum.f
  rw [bs_size]
  have key := down_ (Q := fun i => ∀ h : Int, 0 ≤ h → h < 999979 → Ter (fun k => impl_checksum.l0 k (bs l) h (l.length : Int) (i : Int)) (sumL h (l.drop i))) l.length
    (fun h _ _ => Ter.succ (by simp only [impl_checksum.l0]; refine Ter.ifn (by omega) ((Ter.ret _).eq ?_); rw [List.drop_length]; rfl))
    (fun i hi ih h h0 h1 => by
      refine Ter.succ ?_
      simp only [impl_checksum.l0]
      refine Ter.ifp (by omega) (Ter.ifp (by omega) (Ter.ifp (by rw [bs_size]; omega) ?_))
      rw [bs_bt hi, w64s hi (by omega), sum_step h0 h1, drop_at hi]
      exact ih _ (by omega) (by omega)) 0 (by omega)
  exact key 7 (by omega) (by omega)

theorem l1Sum_is {l : Bs} (hl : l.length ≤ 1152921504606846976) : Ter (fun k => spec_l1Sum.f k (bs l)) (sumL 7 l) := by
  unfold spec_l1Sum.f
  have key := down_ (Q := fun i => ∀ h : Int, 0 ≤ h → h < 999979 → Ter (fun k => spec_l1Sum.l0 k (bs l) h (i : Int)) (sumL h (l.drop i))) l.length
    (fun h _ _ => Ter.succ (by simp only [spec_l1Sum.l0]; refine Ter.ifn (by rw [bs_size]; omega) ((Ter.ret _).eq ?_); rw [List.drop_length]; rfl))
    (fun i hi ih h h0 h1 => by
      refine Ter.succ ?_
      simp only [spec_l1Sum.l0]
      refine Ter.ifp (by rw [bs_size]; omega) (Ter.ifp (by omega) ?_)
      rw [bs_bt hi, w64s hi (by omega), sum_step h0 h1, drop_at hi]
      exact ih _ (by omega) (by omega)) 0 (by omega)
  exact key 7 (by omega) (by omega)

theorem digit_cut : ∀ m : Nat, m < 10 → (⟨#[48, 49, 50, 51, 52, 53, 54, 55, 56, 57]⟩ : ByteArray).extract m (m + 1) = bs [UInt8.ofNat (48 + m)] := by
  intro m hm
  rw [show (⟨#[48, 49, 50, 51, 52, 53, 54, 55, 56, 57]⟩ : ByteArray) = bs [48, 49, 50, 51, 52, 53, 54, 55, 56, 57] from rfl, bs_cut]
  congr 1
  have : ∀ m : Fin 10, (([48, 49, 50, 51, 52, 53, 54, 55, 56, 57] : Bs).take (m.val + 1)).drop m.val = [UInt8.ofNat (48 + m.val)] := by decide
  exact this ⟨m, hm⟩

theorem itoa_small {n : Nat} (h : n < 10) : Lib.itoa (n : Int) = [UInt8.ofNat (48 + n)] := by
  unfold Lib.itoa
  rw [if_neg (by omega), Int.toNat_natCast, Lib.decDigits, dif_pos h]

theorem itoa_big {n : Nat} (h : ¬ n < 10) : Lib.itoa (n : Int) = Lib.itoa ((n / 10 : Nat) : Int) ++ [UInt8.ofNat (48 + n % 10)] := by
  unfold Lib.itoa
  rw [if_neg (by omega), if_neg (by omega), Int.toNat_natCast, Int.toNat_natCast, Lib.decDigits, dif_neg h]

theorem l1Num_is (n : Nat) (hn : n ≤ 1152921504606846976) : Ter (fun k => spec_l1Num.f k (n : Int)) (bs (Lib.itoa (n : Int))) := by
  induction n using Nat.strongRecOn with
  | _ n ih =>
    refine Ter.succ ?_
    simp only [spec_l1Num.f]
    refine Ter.ifn (by omega) ?_
    by_cases h : n < 10
    · refine Ter.ifp (by omega) ?_
      rw [w64s (n := 10) h (by omega)]
      refine Ter.ifp (by omega) (Ter.ifp (by omega) (Ter.ifp (by omega) ((Ter.ret _).eq ?_)))
      rw [Int.toNat_natCast, Int.toNat_natCast, digit_cut n h, itoa_small h]
    · refine Ter.ifn (by omega) ?_
      have e1 : wrap64 (Int.tdiv (n : Int) 10) = ((n / 10 : Nat) : Int) := by
        rw [Int.tdiv_eq_ediv_of_nonneg (by omega), w64 (by omega) (by omega)]
        omega
      have e2 : Int.tmod (n : Int) 10 = ((n % 10 : Nat) : Int) := by
        rw [tmod_is (by omega)]
        omega
      rw [e1, e2, w64s (n := 10) (show n % 10 < 10 by omega) (by omega)]
      refine (ih (n / 10) (by omega) (by omega)).bind ?_
      refine Ter.ifp (by omega) (Ter.ifp (by omega) (Ter.ifp (by omega) ?_))
      rw [Int.toNat_natCast, Int.toNat_natCast, digit_cut _ (by omega)]
      have hlen := itoa_len (n := ((n / 10 : Nat) : Int)) (by omega) 18 (by omega)
      refine Ter.ifp (by rw [bs_size, bs_size]; simp only [List.length_cons, List.length_nil]; omega) ((Ter.ret _).eq ?_)
      rw [bs_app, itoa_big h]

theorem Itoa_is (n : Int) (h0 : -9223372036854775808 ≤ n) (h1 : n ≤ 9223372036854775807) : strconv_Itoa.f n = some (bs (Lib.itoa n)) := by
  unfold strconv_Itoa.f
  rw [if_pos ⟨h0, h1⟩]
  rfl

theorem l12Bytes_is {l : Bs} (m : Nat) (hl : l.length ≤ 1152921504606846976) : Ter (fun k => spec_l12Bytes.f k (bs l) (m : Int)) (plainB m l) := by
  unfold spec_l12Bytes.f
  have key := down_ (Q := fun i => Ter (fun k => spec_l12Bytes.l0 k (bs l) (m : Int) (i : Int)) ((l.drop i).all (fun x => decide (32 ≤ x.toNat) && decide (x.toNat ≤ 126) && x != 35) && decide (l.length ≤ m))) l.length
    (Ter.succ (by
      simp only [spec_l12Bytes.l0]
      refine Ter.ifn (by rw [bs_size]; omega) ((Ter.ret _).eq ?_)
      rw [List.drop_length, bs_size]
      by_cases h : l.length ≤ m <;> simp [h]))
    (fun i hi ih => by
      refine Ter.succ ?_
      simp only [spec_l12Bytes.l0]
      refine Ter.ifp (by rw [bs_size]; omega) (Ter.ifp (by omega) ?_)
      have hx := byte_lt l[i]
      rw [bs_bt hi, w64s hi (by omega), w64 (n := ((l[i].toNat : Nat) : Int)) (by omega) (by omega), lIn_is, drop_at hi, List.all_cons]
      by_cases h1 : 32 ≤ l[i].toNat ∧ l[i].toNat ≤ 126
      · simp only [Option.bind_some]
        refine Ter.ifp (by simp; omega) ?_
        by_cases h2 : l[i] = 35
        · refine Ter.ifp (by rw [h2]; rfl) ((Ter.ret _).eq ?_)
          simp [h2]
        · refine Ter.ifn (fun e => h2 (byte_eq (b := 35) e)) (ih.eq ?_)
          have e3 : (l[i] != 35) = true := by simpa using h2
          simp [h1, e3]
      · simp only [Option.bind_some]
        refine Ter.ifn (by simp; omega) ((Ter.ret _).eq ?_)
        have : (decide (32 ≤ l[i].toNat) && decide (l[i].toNat ≤ 126)) = false := by simp; omega
        simp [this]) 0 (by omega)
  exact key

theorem l1Stands_is {l : Bs} (b : UInt8) (hl : l.length ≤ 1152921504606846976) : Ter (fun k => spec_l1Stands.f k (bs l) (b.toNat : Int)) (l.contains b) := by
  unfold spec_l1Stands.f
  have key := down_ (Q := fun i => Ter (fun k => spec_l1Stands.l0 k (bs l) (b.toNat : Int) (i : Int)) ((l.drop i).contains b)) l.length
    (Ter.succ (by
      simp only [spec_l1Stands.l0]
      refine Ter.ifn (by rw [bs_size]; omega) ((Ter.ret _).eq ?_)
      rw [List.drop_length]
      rfl))
    (fun i hi ih => by
      refine Ter.succ ?_
      simp only [spec_l1Stands.l0]
      refine Ter.ifp (by rw [bs_size]; omega) (Ter.ifp (by omega) ?_)
      rw [bs_bt hi, w64s hi (by omega), drop_at hi, List.contains_cons]
      by_cases h2 : l[i] = b
      · refine Ter.ifp (by rw [h2]) ((Ter.ret _).eq ?_)
        simp [h2]
      · refine Ter.ifn (fun e => h2 (byte_eq e)) (ih.eq ?_)
        simp [Ne.symm h2]) 0 (by omega)
  exact key

theorem l12Record_is {c r : Bs} (hc : c.length ≤ 1152921504606846976) (hr : r.length ≤ 1152921504606846976) : Ter (fun k => spec_l12Record.f k (bs c) (bs r)) (okRec c r) := by
  unfold spec_l12Record.f okRec
  by_cases h0 : c = []
  · refine Ter.ifp (by rw [bs_toList, h0]) ((Ter.ret _).eq ?_)
    simp [h0]
  · refine Ter.ifn (by rw [bs_toList]; exact h0) ((l12Bytes_is 160 hc).bind ?_)
    have e0 : c.isEmpty = false := by simpa using h0
    by_cases h1 : plainB 160 c = true
    · refine Ter.ifp h1 ((l1Stands_is 64 hc).bind ?_)
      by_cases h2 : c.contains 64 = true
      · refine Ter.ifp h2 ((Ter.ret _).eq ?_)
        simp only [e0, h1, h2]
        rfl
      · refine Ter.ifn h2 ((l12Bytes_is 260 hr).bind ((Ter.ret _).eq ?_))
        simp only [e0, h1, Bool.not_eq_true] at h2 ⊢
        rw [h2]
        simp
    · refine Ter.ifn h1 ((Ter.ret _).eq ?_)
      simp only [Bool.not_eq_true] at h1
      simp [h1]

theorem any_is : ∀ (l cs : Bs), Lib.containsAny l cs = l.any (fun x => cs.contains x)
  | [], cs => rfl
  | x :: l, cs => by
    have ih := any_is l cs
    unfold Lib.containsAny at ih ⊢
    rw [List.any_cons, ← ih, Lib.indexAny]
    have := Lib.indexAny_ge cs l
    by_cases h : cs.contains x = true
    · rw [if_pos h, h]; rfl
    · rw [if_neg h]
      simp only [Bool.not_eq_true] at h
      rw [h]
      by_cases h2 : Lib.indexAny l cs = -1
      · simp [h2]
      · rw [if_neg (by simpa using h2)]
        simp only [Bool.false_or, decide_eq_decide]
        omega

theorem isPlain_is {l cs : Bs} (m : Nat) (hl : l.length ≤ 1152921504606846976) (hm : m ≤ 1000) (hc1 : cs.length ≤ 10) (hcs : ∀ b ∈ cs, b.toNat < 128) :
    Ter (fun k => impl_isPlain.f k (bs l) (m : Int) (bs cs)) (l.all (fun x => decide (32 ≤ x.toNat) && decide (x.toNat ≤ 126)) && decide (l.length ≤ m) && !l.any (fun x => cs.contains x)) := by
  unfold impl_isPlain.f
  rw [bs_size]
  have key := down_ (Q := fun i => (∀ x ∈ l.take i, x.toNat < 128) → Ter (fun k => impl_isPlain.l0 k (bs l) (m : Int) (bs cs) (l.length : Int) (i : Int)) ((l.drop i).all (fun x => decide (32 ≤ x.toNat) && decide (x.toNat ≤ 126)) && decide (l.length ≤ m) && !l.any (fun x => cs.contains x))) l.length
    (fun hp => Ter.succ (by
      simp only [impl_isPlain.l0]
      refine Ter.ifn (by omega) ?_
      rw [List.drop_length, bs_size]
      by_cases h : l.length ≤ m
      · refine Ter.ifp (by omega) ?_
        unfold strings_ContainsAny.f
        rw [bs_list, bs_list, bs_size, bs_size, if_pos ⟨by omega, by omega, by rw [List.take_length] at hp; exact hp, hcs⟩, any_is]
        refine (Ter.ret _).eq ?_
        simp [h]
      · refine Ter.ifn (by omega) ((Ter.ret _).eq ?_)
        simp [h]))
    (fun i hi ih hp => by
      refine Ter.succ ?_
      simp only [impl_isPlain.l0]
      refine Ter.ifp (by omega) (Ter.ifp (by omega) (Ter.ifp (by rw [bs_size]; omega) ?_))
      rw [bs_bt hi, w64s hi (by omega), drop_at hi, List.all_cons]
      by_cases h1 : (l[i].toNat : Int) < 32
      · refine Ter.ifp h1 ((Ter.ret _).eq ?_)
        have : decide (32 ≤ l[i].toNat) = false := by simp; omega
        simp [this]
      · refine Ter.ifn h1 ?_
        by_cases h2 : (l[i].toNat : Int) > 126
        · refine Ter.ifp h2 ((Ter.ret _).eq ?_)
          have : decide (l[i].toNat ≤ 126) = false := by simp; omega
          simp [this]
        · refine Ter.ifn h2 ((ih ?_).eq ?_)
          · intro x hx
            rw [← take_one hi, List.mem_append, List.mem_singleton] at hx
            rcases hx with hx | hx
            · exact hp x hx
            · subst hx; omega
          · have e1 : decide (32 ≤ l[i].toNat) = true := by simp; omega
            have e2 : decide (l[i].toNat ≤ 126) = true := by simp; omega
            simp [e1, e2]) 0 (by omega)
  exact key (by simp)

theorem plain_split (m : Nat) (l : Bs) : plainB m l = (l.all (fun x => decide (32 ≤ x.toNat) && decide (x.toNat ≤ 126)) && l.all (fun x => x != 35) && decide (l.length ≤ m)) := by
  unfold plainB
  congr 1
  induction l with
  | nil => rfl
  | cons x l ih =>
    have : ∀ a b c d : Bool, (a && b && (c && d)) = (a && c && (b && d)) := by decide
    rw [List.all_cons, List.all_cons, List.all_cons, ih, this]

theorem any_hash (l : Bs) : (!l.any (fun x => ([35] : Bs).contains x)) = l.all (fun x => x != 35) := by
  induction l with
  | nil => rfl
  | cons x l ih => simp only [List.any_cons, List.all_cons, ← ih, Bool.not_or]; congr 1; by_cases h : x = 35 <;> simp [h]

theorem any_both (l : Bs) : (!l.any (fun x => ([35, 64] : Bs).contains x)) = (l.all (fun x => x != 35) && !l.contains 64) := by
  induction l with
  | nil => rfl
  | cons x l ih =>
    by_cases h : x = 35
    · subst h; simp
    · by_cases h2 : x = 64
      · subst h2; simp
      · have this : ((64 : UInt8) == x) = false := by simpa using Ne.symm h2
        have e1 : ([35, 64] : Bs).contains x = false := by simp [h, h2]
        have e2 : (x != 35) = true := by simpa using h
        rw [List.any_cons, e1, List.all_cons, e2, show (x :: l).contains 64 = l.contains 64 by rw [List.contains_cons, this, Bool.false_or], Bool.false_or, Bool.true_and]
        exact ih

theorem IsValidRecord_is {c r : Bs} (hc : c.length ≤ 1152921504606846976) (hr : r.length ≤ 1152921504606846976) : Ter (fun k => impl_IsValidRecord.f k (bs c) (bs r)) (okRec c r) := by
  unfold impl_IsValidRecord.f okRec
  have e1 : Ter (fun k => impl_isCommand.f k (bs c)) (!c.isEmpty && plainB 160 c && !c.contains 64) := by
    unfold impl_isCommand.f
    by_cases h0 : c = []
    · refine Ter.ifp (by rw [bs_toList, h0]) ((Ter.ret _).eq ?_)
      simp [h0]
    · refine Ter.ifn (by rw [bs_toList]; exact h0) ?_
      rw [lit2]
      refine (isPlain_is 160 hc (by omega) (by simp) (by decide)).bind ((Ter.ret _).eq ?_)
      have e0 : c.isEmpty = false := by simpa using h0
      rw [any_both, plain_split, e0]
      exact (by decide : ∀ a b d e : Bool, (a && d && (b && e)) = (!false && (a && b && d) && e)) _ _ _ _
  refine e1.bind ?_
  by_cases h : (!c.isEmpty && plainB 160 c && !c.contains 64) = true
  · rw [h]
    refine Ter.ifp rfl ?_
    rw [lit1]
    refine (isPlain_is 260 hr (by omega) (by simp) (by decide)).bind ((Ter.ret _).eq ?_)
    rw [any_hash, plain_split, Bool.true_and]
    exact (by decide : ∀ a b d : Bool, (a && d && b) = (a && b && d)) _ _ _
  · simp only [Bool.not_eq_true] at h
    rw [h]
    exact Ter.ifn (by decide) ((Ter.ret _).eq rfl)

theorem l1Seal_is {l : Bs} (hl : l.length ≤ 1000000000) : Ter (fun k => spec_l1Seal.f k (bs l)) (bs (sealB l)) := by
  have hs := sumL_range l 7 (by omega) (by omega)
  obtain ⟨n, hn⟩ : ∃ n : Nat, sumL 7 l = (n : Int) := ⟨(sumL 7 l).toNat, by omega⟩
  have h2 := itoa_len hs.1 5 (by omega)
  unfold spec_l1Seal.f sealB
  refine Ter.ifp (by rw [bs_size]; omega) ((l1Sum_is (by omega)).bind ?_)
  rw [hn] at h2 ⊢
  refine (l1Num_is n (by omega)).bind ?_
  rw [lit1, bs_app]
  refine Ter.ifp (by rw [bs_size, bs_size]; simp only [List.length_append, List.length_cons, List.length_nil]; omega) ((Ter.ret _).eq ?_)
  rw [bs_app]
  simp

theorem line_app (k : Int) (c r : Bs) : ((((Lib.itoa k ++ [32]) ++ c) ++ [64]) ++ r) = bodyB k c r := by unfold bodyB; simp

theorem l12Line_is {c r : Bs} (k : Nat) (hk : k ≤ 1000) (hc : c.length ≤ 100000000) (hr : r.length ≤ 100000000) : Ter (fun n => spec_l12Line.f n (k : Int) (bs c) (bs r)) (bs (lineB (k : Int) c r)) := by
  have h2 := itoa_len (n := (k : Int)) (by omega) 3 (by omega)
  unfold spec_l12Line.f
  refine (l1Num_is k (by omega)).bind ?_
  simp only [lit1, bs_app, bs_size, List.length_append, List.length_cons, List.length_nil]
  refine Ter.ifp (by omega) (Ter.ifp (by omega) (Ter.ifp (by omega) (Ter.ifp (by omega) ?_)))
  rw [line_app]
  have h3 : (bodyB (k : Int) c r).length ≤ 1000000000 := by unfold bodyB; simp only [List.length_append, List.length_cons]; omega
  refine (l1Seal_is h3).bind ?_
  have h4 := seal_len (bodyB (k : Int) c r)
  rw [bs_size]
  exact Ter.ifp (by omega) ((Ter.ret _).eq (by rw [bs_app]; rfl))

theorem Contains_is (l : Bs) (b : UInt8) : strings_Contains.f (bs l) (⟨#[b]⟩ : ByteArray) = some (l.contains b) := by
  show some (decide (0 ≤ Lib.indexByte l b)) = _
  congr 1
  induction l with
  | nil => rfl
  | cons x l ih =>
    rw [List.contains_cons, ← ih, Lib.indexByte]
    have := Lib.indexByte_ge l b
    by_cases h : x = b
    · subst h; simp
    · have h1 : (x == b) = false := by simpa using h
      have h2 : (b == x) = false := by simpa using Ne.symm h
      rw [h1, h2]
      by_cases h3 : Lib.indexByte l b = -1
      · simp [h3]
      · have h4 : (Lib.indexByte l b == -1) = false := by simpa using h3
        rw [h4]
        simp only [Bool.false_eq_true, if_false, Bool.false_or, decide_eq_decide]
        omega

theorem AppendChecksum_is {l : Bs} (hl : l.length ≤ 1000000000) (hn : (35 : UInt8) ∉ l) : Ter (fun k => impl_AppendChecksum.f k (bs l)) (if (sealB l).length ≤ 4000 then (bs (sealB l), true) else (bs [], false)) := by
  have hs := sumL_range l 7 (by omega) (by omega)
  have h2 := itoa_len hs.1 5 (by omega)
  have h3 : (sealB l).length = l.length + 1 + (Lib.itoa (sumL 7 l)).length := by unfold sealB; simp only [List.length_append, List.length_cons]; omega
  have hj : l.length ≤ 4000 → Ter (fun k => impl_AppendChecksum.j0 k (bs l) false) (if (sealB l).length ≤ 4000 then (bs (sealB l), true) else (bs [], false)) := by
    intro h4
    refine Ter.succ ?_
    simp only [impl_AppendChecksum.j0]
    refine Ter.ifn (by decide) (Ter.ifp (by rw [bs_size]; omega) ((checksum_is (by omega)).bind ?_))
    rw [Itoa_is _ (by omega) (by omega)]
    simp only [Option.bind_some, lit1, lit0, bs_app, bs_size, List.length_append, List.length_cons, List.length_nil]
    refine Ter.ifp (by omega) ?_
    by_cases h5 : (sealB l).length ≤ 4000
    · rw [if_pos h5]
      refine Ter.ifn (by omega) ((Ter.ret _).eq ?_)
      unfold sealB
      simp
    · rw [if_neg h5]
      exact Ter.ifp (by omega) (Ter.ret _)
  unfold impl_AppendChecksum.f
  by_cases h4 : l.length ≤ 4000
  · refine Ter.ifn (by rw [bs_size]; omega) ?_
    rw [Contains_is]
    have : l.contains 35 = false := by simpa using hn
    rw [this]
    exact hj h4
  · refine Ter.ifp (by rw [bs_size]; omega) ?_
    refine Ter.succ ?_
    simp only [impl_AppendChecksum.j0]
    rw [if_neg (by omega)]
    exact Ter.ifp trivial (Ter.ret _)

theorem cut_no (l : Bs) (b : UInt8) : b ∉ (Lib.cut l [b]).1 := by
  by_cases hm : b ∈ l
  · have e := split_at hm
    rw [e, cut_app _ (not_ahead l)]
    exact not_ahead l
  · rw [cut_not hm]
    exact hm

theorem cut_len (l : Bs) (b : UInt8) : (Lib.cut l [b]).1.length ≤ l.length ∧ (Lib.cut l [b]).2.1.length ≤ l.length := by
  by_cases hm : b ∈ l
  · have e := split_at hm
    have e2 : Lib.cut l [b] = (ahead b l, behind b l, true) := by rw [e, cut_app _ (not_ahead l), ← e]
    have e3 := congrArg List.length e
    simp only [List.length_append, List.length_cons] at e3
    rw [e2]
    constructor <;> simp only [] <;> omega
  · rw [cut_not hm]
    simp

theorem Cut_is (l : Bs) (b : UInt8) (hl : l.length < 4294967281) : strings_Cut.f (bs l) (⟨#[b]⟩ : ByteArray) = some (bs (Lib.cut l [b]).1, bs (Lib.cut l [b]).2.1, (Lib.cut l [b]).2.2) := by
  unfold strings_Cut.f
  rw [if_pos (by rw [bs_size]; exact hl)]
  rfl

theorem Verify_is {l : Bs} (hl : l.length ≤ 1000000000) : ∃ b : Bool, Ter (fun k => impl_VerifyChecksum.f k (bs l)) (bs (verB l), b) := by
  have h1 := cut_len l 35
  unfold impl_VerifyChecksum.f
  simp only [Cut_is l 35 (by omega), Option.bind_some]
  by_cases h : (sealB (Lib.cut l [35]).1).length ≤ 4000
  · by_cases h2 : sealB (Lib.cut l [35]).1 = l
    · refine ⟨true, (AppendChecksum_is (by omega) (cut_no l 35)).bind ?_⟩
      rw [if_pos h]
      refine Ter.ifp rfl (Ter.ifp (by rw [bs_toList, bs_toList]; exact h2) ((Ter.ret _).eq ?_))
      unfold verB
      rw [if_pos ⟨h2, by rw [h2] at h; exact h⟩]
    · refine ⟨false, (AppendChecksum_is (by omega) (cut_no l 35)).bind ?_⟩
      rw [if_pos h]
      refine Ter.ifp rfl (Ter.ifn (by rw [bs_toList, bs_toList]; exact h2) ((Ter.ret _).eq ?_))
      unfold verB
      rw [if_neg (fun e => h2 e.1)]
      rfl
  · refine ⟨false, (AppendChecksum_is (by omega) (cut_no l 35)).bind ?_⟩
    rw [if_neg h]
    refine Ter.ifn (by decide) ((Ter.ret _).eq ?_)
    unfold verB
    rw [if_neg (fun e => h (by rw [e.1]; exact e.2))]
    rfl

/-- What both encoders tell. -/
def encB (k : Int) (c r : Bs) : ByteArray × Bool := if (0 ≤ k ∧ k ≤ 59) ∧ okRec c r = true then (bs (lineB k c r), true) else (bs [], false)

theorem implEncode_is {c r : Bs} (k : Int) (hc : c.length ≤ 100000000) (hr : r.length ≤ 100000000) : Ter (fun n => impl_EncodeRecord.f n k (bs c) (bs r)) (encB k c r) := by
  have hj : Ter (fun n => impl_EncodeRecord.j0 n k true (bs c) (bs r)) (bs [], false) := Ter.succ (by simp only [impl_EncodeRecord.j0]; exact Ter.ifp trivial (Ter.ret _))
  unfold impl_EncodeRecord.f encB
  rw [lWithin_is]
  simp only [Option.bind_some]
  by_cases h : 0 ≤ k ∧ k ≤ 59
  · refine Ter.ifp (by simp; omega) ((IsValidRecord_is (by omega) (by omega)).bind ?_)
    by_cases h2 : okRec c r = true
    · rw [if_pos ⟨h, h2⟩, h2]
      refine Ter.succ ?_
      simp only [impl_EncodeRecord.j0]
      rw [Itoa_is k (by omega) (by omega)]
      simp only [Option.bind_some, lit1, bs_app, bs_size, List.length_append, List.length_cons, List.length_nil]
      have h3 := itoa_len h.1 1 (by omega)
      have ho := okRec_ok h2
      have h4 := body_len h.1 (by omega) ho
      have h5 := seal_len (bodyB k c r)
      refine Ter.ifn (by decide) (Ter.ifp (by omega) (Ter.ifp (by omega) (Ter.ifp (by omega) (Ter.ifp (by omega) ?_))))
      rw [line_app]
      have hA := AppendChecksum_is (l := bodyB k c r) (by omega) (body_hash h.1 ho)
      rw [if_pos (show (sealB (bodyB k c r)).length ≤ 4000 by omega)] at hA
      refine hA.bind ?_
      exact Ter.ifp (by rw [bs_size]; omega) ((Ter.ret _).eq (by rw [bs_app]; rfl))
    · rw [if_neg (fun e => h2 e.2)]
      simp only [Bool.not_eq_true] at h2
      rw [h2]
      exact hj
  · rw [if_neg (fun e => h e.1)]
    exact Ter.ifn (by simp; omega) hj
end Go.Proofs.YtaceoijcjkbgfaaDoor.P
namespace Go.Proofs.YtaceoijcjkbgfaaDoor.P
open Go.RowKit Go.Proofs.YtaceoijcjkbgfaaDoorW.PrintWords Go.Proofs.YtaceoijcjkbgfaaDoorW.PrintLast Go.Proofs.YtaceoijcjkbgfaaDoorW.PrintMore
set_option linter.unusedVariables false
set_option linter.unusedSimpArgs false

theorem take_drop_app {l : Bs} {i j : Nat} (h : i ≤ j) : l.drop i = (l.take j).drop i ++ l.drop j := by
  by_cases hj : j ≤ l.length
  · have e : l = l.take j ++ l.drop j := (List.take_append_drop j l).symm
    have : (l.take j ++ l.drop j).drop i = (l.take j).drop i ++ l.drop j := List.drop_append_of_le_length (by rw [List.length_take]; omega)
    rw [← e] at this
    exact this
  · rw [show l.drop j = [] from List.drop_eq_nil_of_le (by omega), List.append_nil, List.take_of_length_le (by omega)]

theorem l1Split_is {l : Bs} (b : UInt8) (hl : l.length ≤ 1000000000) : ∃ (p : List ByteArray) (q : ByteArray × List ByteArray), Ter (fun k => spec_l1Split.f k (bs l) (b.toNat : Int)) (bs (ahead b l) :: p) ∧ (b ∉ l → p = []) ∧ (b ∈ l → p = q.1 :: q.2) := by
  have key := down_ (Q := fun i => ∀ (out : List ByteArray) (a : Nat), a ≤ i → out.length ≤ i → b ∉ (l.take i).drop a → ∃ (p : List ByteArray) (q : ByteArray × List ByteArray), Ter (fun k => spec_l1Split.l0 k (bs l) (b.toNat : Int) out (a : Int) (i : Int)) (out ++ bs (ahead b (l.drop a)) :: p) ∧ (b ∉ l.drop i → p = []) ∧ (b ∈ l.drop i → p = q.1 :: q.2)) l.length
    (fun out a ha ho hb => ⟨[], (ByteArray.empty, []), Ter.succ (by
      simp only [spec_l1Split.l0]
      refine Ter.ifn (by rw [bs_size]; omega) (Ter.ifp (by omega) (Ter.ifp (by rw [bs_size]; omega) (Ter.ifp (by omega) ((Ter.ret _).eq ?_))))
      rw [bs_size, Int.toNat_natCast, bs_from]
      rw [List.take_length] at hb
      rw [ahead_none hb]), fun _ => rfl, fun h => by rw [List.drop_length] at h; cases h⟩)
    (fun i hi ih out a ha ho hb => by
      have hbt : bt (bs l) (i : Int) = (l[i].toNat : Int) := bs_bt hi
      by_cases h2 : l[i] = b
      · obtain ⟨p, q, h3, _, _⟩ := ih (out ++ [bs (ahead b (l.drop a))]) (i + 1) (Nat.le_refl _) (by simp; omega) (by rw [List.drop_eq_nil_of_le (by rw [List.length_take]; omega)]; simp)
        refine ⟨bs (ahead b (l.drop (i + 1))) :: p, (bs (ahead b (l.drop (i + 1))), p), Ter.succ ?_, fun h => absurd (by rw [drop_at hi, h2]; simp) h, fun _ => rfl⟩
        simp only [spec_l1Split.l0]
        refine Ter.ifp (by rw [bs_size]; omega) (Ter.ifp (by omega) (Ter.ifp (by rw [hbt, h2]) (Ter.ifp (by omega) (Ter.ifp (by omega) (Ter.ifp (by rw [bs_size]; omega) (Ter.ifp (by omega) ?_))))))
        rw [w64s hi (by omega), Int.toNat_natCast, Int.toNat_natCast, bs_cut]
        have e1 : ahead b (l.drop a) = (l.take i).drop a := by
          rw [take_drop_app ha, drop_at hi, h2]
          exact ahead_app _ hb
        rw [e1] at h3
        refine h3.eq ?_
        rw [e1]
        simp
      · obtain ⟨p, q, h3, h4, h5⟩ := ih out a (by omega) (by omega) (by
          have e : (l.take (i + 1)).drop a = (l.take i).drop a ++ [l[i]] := by
            rw [← take_one hi, List.drop_append_of_le_length (by rw [List.length_take]; omega)]
          rw [e, List.mem_append, List.mem_singleton]
          rintro (h | h)
          · exact hb h
          · exact h2 h.symm)
        refine ⟨p, q, Ter.succ ?_, fun h => h4 (fun h6 => h (by rw [drop_at hi]; exact List.mem_cons_of_mem _ h6)), fun h => h5 (by
          rw [drop_at hi] at h
          rcases List.mem_cons.1 h with h | h
          · exact absurd h.symm h2
          · exact h)⟩
        simp only [spec_l1Split.l0]
        refine Ter.ifp (by rw [bs_size]; omega) (Ter.ifp (by omega) (Ter.ifn (fun e => h2 (byte_eq (hbt.symm.trans e))) ?_))
        rw [w64s hi (by omega)]
        exact h3) 0 (by omega)
  obtain ⟨p, q, h1, h2, h3⟩ := key [] 0 (Nat.le_refl _) (Nat.le_refl _) (by simp)
  exact ⟨p, q, h1, h2, h3⟩

theorem rd_head (x : ByteArray) (p : List ByteArray) : rdOf ByteArray.empty (x :: p) 0 = x := rfl

theorem ahead_len (b : UInt8) (l : Bs) : (ahead b l).length ≤ l.length := (List.takeWhile_sublist _).length_le

theorem dec_is {l : Bs} (k : Nat) (hk : k ≤ 100) (hl : l.length ≤ 1000000) : ∃ x y : Bs, ∃ ok : Bool, Ter (fun n => spec_l12Decode.f n (bs l) (k : Int)) (bs x, bs y, ok) ∧ dec l (k : Int) = if ok = true then some (x, y) else none := by
  have hn := itoa_len (n := (k : Int)) (by omega) 2 (by omega)
  obtain ⟨p, q, hs, _, _⟩ := l1Split_is (l := l) 35 (by omega)
  have ht := ahead_len 35 l
  have hF0 : ∀ {r : ByteArray × ByteArray × Bool}, Ter (fun n => if ((ahead 35 l).length : Int) < ((Lib.itoa (k : Int) ++ [32]).length : Int) then spec_l12Decode.j0 n (bs l) (k : Int) (bs (Lib.itoa (k : Int) ++ [32])) (bs (ahead 35 l)) true else spec_l12Decode.j0 n (bs l) (k : Int) (bs (Lib.itoa (k : Int) ++ [32])) (bs (ahead 35 l)) ((ahead 35 l).take (Lib.itoa (k : Int) ++ [32]).length != Lib.itoa (k : Int) ++ [32])) r → Ter (fun n => spec_l12Decode.f n (bs l) (k : Int)) r := by
    intro r h
    unfold spec_l12Decode.f
    refine (l1Num_is k (by omega)).bind ?_
    simp only [lit1, bs_app, bs_size]
    refine Ter.ifp (by omega) (hs.bind ?_)
    refine Ter.ifp (by simp only [List.length_cons]; omega) ?_
    rw [rd_head, bs_size]
    by_cases hc : ((ahead 35 l).length : Int) < ((Lib.itoa (k : Int) ++ [32]).length : Int)
    · simp only [if_pos hc] at h ⊢
      exact h
    · simp only [if_neg hc] at h ⊢
      refine Ter.ifp (by omega) (Ter.ifp (by omega) ?_)
      rw [Int.toNat_natCast, bs_upto, bs_toList, bs_toList]
      exact h
  generalize hd_ : Lib.itoa (k : Int) ++ [32] = hd at hF0
  generalize ht_ : ahead 35 l = text at hF0 ht
  have hT : Ter (fun n => spec_l12Decode.j0 n (bs l) (k : Int) (bs hd) (bs text) true) (bs [], bs [], false) := Ter.succ (by simp only [spec_l12Decode.j0]; exact Ter.ifp trivial (Ter.ret _))
  unfold dec
  simp only [hd_, ht_]
  by_cases c1 : text.length < hd.length
  · simp only [if_pos (Int.ofNat_lt.2 c1)] at hF0
    exact ⟨[], [], false, hF0 hT, by rw [if_pos (.inl c1)]; rfl⟩
  · simp only [if_neg (fun e => c1 (Int.ofNat_lt.1 e))] at hF0
    have hF := @hF0
    clear hF0
    by_cases c2 : text.take hd.length = hd
    · have e2 : (text.take hd.length != hd) = false := by simpa using c2
      rw [e2] at hF
      rw [if_neg (by rintro (h | h); exact c1 h; exact h c2)]
      obtain ⟨p2, q2, hs2, _, _⟩ := l1Split_is (l := text.drop hd.length) 64 (by simp; omega)
      have ht2 := ahead_len 64 (text.drop hd.length)
      have h7 : (ahead 64 (text.drop hd.length)).length ≤ 1000000 := by
        rw [List.length_drop] at ht2
        omega
      have hJ : ∀ {r : ByteArray × ByteArray × Bool}, Ter (fun n => if (((ahead 64 (text.drop hd.length)).length : Nat) : Int) = ((text.drop hd.length).length : Int) then some (bs [], bs [], false) else ((spec_l12Record.f n (bs (ahead 64 (text.drop hd.length))) (bs ((text.drop hd.length).drop ((ahead 64 (text.drop hd.length)).length + 1)))).bind fun t188 => (if t188 = true then ((spec_l12Line.f n (k : Int) (bs (ahead 64 (text.drop hd.length))) (bs ((text.drop hd.length).drop ((ahead 64 (text.drop hd.length)).length + 1)))).bind fun t189 => some (bs (ahead 64 (text.drop hd.length)), bs ((text.drop hd.length).drop ((ahead 64 (text.drop hd.length)).length + 1)), t189.toList == l ++ [10])) else some (bs (ahead 64 (text.drop hd.length)), bs ((text.drop hd.length).drop ((ahead 64 (text.drop hd.length)).length + 1)), false)))) r → Ter (fun n => spec_l12Decode.j0 n (bs l) (k : Int) (bs hd) (bs text) false) r := by
        intro r h
        refine Ter.succ ?_
        simp only [spec_l12Decode.j0, bs_size, Int.toNat_natCast, bs_from]
        refine Ter.ifn (by decide) (Ter.ifp (by omega) (Ter.ifp (by omega) (hs2.bind ?_)))
        refine Ter.ifp (by simp only [List.length_cons]; omega) ?_
        rw [rd_head]
        simp only [bs_size]
        by_cases c3 : (((ahead 64 (text.drop hd.length)).length : Nat) : Int) = ((text.drop hd.length).length : Int)
        · simp only [if_pos c3] at h
          exact Ter.ifp c3 h
        · simp only [if_neg c3] at h
          refine Ter.ifn c3 ?_
          have e3 : wrap64 ((((ahead 64 (text.drop hd.length)).length : Nat) : Int) + 1) = (((ahead 64 (text.drop hd.length)).length + 1 : Nat) : Int) := by
            generalize (ahead 64 (text.drop hd.length)).length = m at h7
            rw [w64 (by omega) (by omega)]
            omega
          simp only [e3]
          refine Ter.ifp (by omega) (Ter.ifp (by omega) ?_)
          have e9 : l.length + 1 ≤ 9223372036854775807 := by omega
          simp only [Int.toNat_natCast, bs_from, lit1, bs_app, bs_toList, if_pos e9]
          exact h
      by_cases c3 : (ahead 64 (text.drop hd.length)).length = (text.drop hd.length).length
      · refine ⟨[], [], false, hF (hJ (Ter.ifp (by rw [c3]) (Ter.ret _))), ?_⟩
        rw [if_pos c3]
        rfl
      · rw [if_neg c3]
        generalize ha_ : ahead 64 (text.drop hd.length) = ask at hJ ht2 c3
        generalize hr_ : (text.drop hd.length).drop (ask.length + 1) = rep at hJ
        have h5 : ask.length ≤ 1000000 := by simp at ht2; omega
        have h6 : rep.length ≤ 1000000 := by rw [← hr_]; simp; omega
        by_cases c4 : okRec ask rep = true
        · refine ⟨ask, rep, lineB (k : Int) ask rep == l ++ [10], hF (hJ (Ter.ifn (by omega) ((l12Record_is (by omega) (by omega)).bind ?_))), ?_⟩
          · refine Ter.ifp c4 ((l12Line_is k (by omega) (by omega) (by omega)).bind ((Ter.ret _).eq ?_))
            rw [bs_toList]
          · by_cases c5 : lineB (k : Int) ask rep = l ++ [10]
            · rw [if_pos ⟨c4, c5⟩, if_pos (by simpa using c5)]
            · rw [if_neg (fun e => c5 e.2), if_neg (by simpa using c5)]
        · refine ⟨ask, rep, false, hF (hJ (Ter.ifn (by omega) ((l12Record_is (by omega) (by omega)).bind (Ter.ifn c4 (Ter.ret _))))), ?_⟩
          rw [if_neg (fun e => c4 e.1)]
          rfl
    · have e2 : (text.take hd.length != hd) = true := by simpa using c2
      rw [e2] at hF
      exact ⟨[], [], false, hF hT, by rw [if_pos (.inr c2)]; rfl⟩

def toRec (p : Bs × Bs) : S47 := ⟨bs p.1, bs p.2⟩

theorem one_len {k : Int} (hk : 0 ≤ k) {t : Bs} {c r : Bs} (h : one k t = some (c, r)) : t.length ≥ (lineB k c r).length := (one_starts h).2.length_le

theorem line_ahead {k : Int} (hk : 0 ≤ k) {t c r : Bs} (h : one k t = some (c, r)) : (10 : UInt8) ∈ t ∧ (ahead 10 t).length + 1 = (lineB k c r).length := by
  obtain ⟨ho, q, rfl⟩ := one_starts h
  have hr := okRec_ok ho
  unfold lineB
  refine ⟨by simp, ?_⟩
  rw [List.append_assoc, show [10] ++ q = 10 :: q from rfl, ahead_app q (seal_nl (body_nl hk hr))]
  simp

theorem l12Open_is {l : Bs} (hl : l.length ≤ 1000000) : Ter (fun n => spec_l12Open.f n (bs l)) ((recs 60 0 l).map toRec, (lenR 0 (recs 60 0 l) : Int)) := by
  have key : ∀ (n : Nat) (out : List S47) (a : Nat), out.length + n = 60 → a ≤ l.length → Ter (fun k => spec_l12Open.l0 k (bs l) out (a : Int)) (out ++ (recs n (out.length : Int) (l.drop a)).map toRec, ((a + lenR (out.length : Int) (recs n (out.length : Int) (l.drop a)) : Nat) : Int)) := by
    have hj : ∀ (out : List S47) (a : Nat), Ter (fun k => spec_l12Open.j1 k (bs l) out (a : Int) false) (out, (a : Int)) := fun out a => Ter.succ (by simp only [spec_l12Open.j1]; exact Ter.ifn (by decide) (Ter.ret _))
    intro n
    induction n with
    | zero =>
      intro out a h1 h2
      refine Ter.succ ?_
      simp only [spec_l12Open.l0, recs, List.map_nil, List.append_nil, lenR, Nat.add_zero]
      rw [show decide ((out.length : Int) < 60) = false by simp; omega]
      exact Ter.if_eq (fun _ => hj out a) (fun _ => hj out a)
    | succ n ih =>
      intro out a h1 h2
      refine Ter.succ ?_
      simp only [spec_l12Open.l0, bs_size]
      by_cases h3 : a < l.length
      · refine Ter.ifp (by omega) ?_
        rw [show decide ((out.length : Int) < 60) = true by simp; omega]
        refine Ter.succ ?_
        simp only [spec_l12Open.j1, bs_size, Int.toNat_natCast, bs_from]
        refine Ter.ifp trivial (Ter.ifp (by omega) (Ter.ifp (by omega) ?_))
        obtain ⟨p, q, hs, hp1, hp2⟩ := l1Split_is (l := l.drop a) 10 (by simp; omega)
        refine hs.bind (Ter.ifp (by simp only [List.length_cons]; omega) ?_)
        rw [rd_head]
        have hal := ahead_len 10 (l.drop a)
        obtain ⟨x, y, ok, hd, hd2⟩ := dec_is (l := ahead 10 (l.drop a)) out.length (by omega) (by simp at hal; omega)
        refine hd.bind ?_
        have e1 := one'_eq (k := (out.length : Int)) (by omega) (by omega) (l.drop a)
        unfold one' at e1
        by_cases h4 : (10 : UInt8) ∈ l.drop a
        · rw [if_pos h4, hd2] at e1
          rw [hp2 h4]
          refine Ter.ifn (by simp only [List.length_cons]; omega) ?_
          cases ok with
          | false =>
            rw [if_neg (by decide)] at e1
            refine Ter.ifn (by simp) ((Ter.ret _).eq ?_)
            simp only [recs, ← e1, List.map_nil, List.append_nil, lenR, Nat.add_zero]
          | true =>
            rw [if_pos rfl] at e1
            refine Ter.ifp rfl (Ter.ifp (by omega) ?_)
            have e2 := (line_ahead (k := (out.length : Int)) (by omega) e1.symm).2
            have e3 := one_len (k := (out.length : Int)) (by omega) e1.symm
            simp only [List.length_drop] at e3
            have e4 : wrap64 (wrap64 ((a : Int) + ((bs (ahead 10 (l.drop a))).size : Int)) + 1) = ((a + (lineB (out.length : Int) x y).length : Nat) : Int) := by
              rw [bs_size, w64 (n := (a : Int) + _) (by omega) (by omega), w64 (by omega) (by omega)]
              omega
            rw [e4]
            refine (ih (out ++ [(⟨bs x, bs y⟩ : S47)]) (a + (lineB (out.length : Int) x y).length) (by simp; omega) (by omega)).eq ?_
            have e5 : ((out ++ [(⟨bs x, bs y⟩ : S47)]).length : Int) = (out.length : Int) + 1 := by simp
            rw [e5]
            simp only [recs, ← e1, List.map_cons, lenR, List.drop_drop]
            rw [List.append_assoc, Nat.add_assoc]
            rfl
        · rw [if_neg h4] at e1
          rw [hp1 h4]
          refine Ter.ifp (by simp) ((Ter.ret _).eq ?_)
          simp only [recs, ← e1, List.map_nil, List.append_nil, lenR, Nat.add_zero]
      · refine Ter.ifn (by omega) ((hj out a).eq ?_)
        have e0 : l.drop a = [] := List.drop_eq_nil_of_le (by omega)
        simp only [recs, e0, one_nil (k := (out.length : Int)) (by omega), List.map_nil, List.append_nil, lenR, Nat.add_zero]
  unfold spec_l12Open.f
  have := key 60 [] 0 rfl (by omega)
  simpa using this

/-- The program's ends, as the printed function keeps them: behind the first one. -/
def endsI (a : Nat) (k : Int) (l : List (Bs × Bs)) : List Int := (endsR a k l).map fun (n : Nat) => (n : Int)

theorem endsI_cons (a : Nat) (k : Int) (e : Bs × Bs) (l : List (Bs × Bs)) : endsI a k (e :: l) = (a : Int) :: endsI (a + (lineB k e.1 e.2).length) (k + 1) l := rfl

theorem encB_eq {k : Int} (h0 : 0 ≤ k) (h1 : k ≤ 59) {c r : Bs} : encB k c r = if okRec c r = true then (bs (lineB k c r), true) else (bs [], false) := by
  unfold encB
  by_cases h : okRec c r = true
  · rw [if_pos ⟨⟨h0, h1⟩, h⟩, if_pos h]
  · rw [if_neg (fun e => h e.2), if_neg h]

theorem verB_len (l : Bs) : (verB l).length ≤ l.length := by
  have := (cut_len l 35).1
  unfold verB
  split
  · exact this
  · simp

set_option maxHeartbeats 1000000 in
theorem readRecords_is {l : Bs} (hl : l.length ≤ 1000000) : Ter (fun n => impl_readRecords.f n (bs l)) ((recs 60 0 l).map toRec, endsI 0 0 (recs 60 0 l)) := by
  have key : ∀ (n : Nat) (out : List S47) (en : List Int) (a : Nat), out.length + n = 60 → en.length + n ≤ 61 → a ≤ l.length → Ter (fun k => impl_readRecords.l0 k (bs l) out (en ++ [(a : Int)]) (a : Int)) (out ++ (recs n (out.length : Int) (l.drop a)).map toRec, en ++ endsI a (out.length : Int) (recs n (out.length : Int) (l.drop a))) := by
    intro n
    induction n with
    | zero =>
      intro out en a h1 h3 h4
      refine Ter.succ ?_
      simp only [impl_readRecords.l0, recs, List.map_nil, List.append_nil]
      exact Ter.ifn (by omega) (Ter.ret _)
    | succ n ih =>
      intro out en a h1 h3 h4
      refine Ter.succ ?_
      simp only [impl_readRecords.l0, bs_size, Int.toNat_natCast, bs_from]
      refine Ter.ifp (by omega) (Ter.ifp (by omega) (Ter.ifp (by omega) ?_))
      have hstop : one (out.length : Int) (l.drop a) = none → Ter (fun _ : Nat => some (out, en ++ [(a : Int)])) (out ++ (recs (n + 1) (out.length : Int) (l.drop a)).map toRec, en ++ endsI a (out.length : Int) (recs (n + 1) (out.length : Int) (l.drop a))) := by
        intro h
        refine (Ter.ret _).eq ?_
        simp only [recs, h, List.map_nil, List.append_nil]
        rfl
      have hd1 : (l.drop a).length ≤ 1000000 := by simp; omega
      generalize ht_ : l.drop a = t at hstop hd1 ⊢
      have hc1 := cut_len t 10
      rw [Cut_is t 10 (by omega)]
      simp only [Option.bind_some]
      by_cases hw : (Lib.cut t [10]).2.2 = true
      · refine Ter.ifp hw ?_
        obtain ⟨vb, hv⟩ := Verify_is (l := (Lib.cut t [10]).1) (by omega)
        refine hv.bind ?_
        have hvl := verB_len (Lib.cut t [10]).1
        have hc2 := cut_len (verB (Lib.cut t [10]).1) 32
        have hc3 := cut_len (Lib.cut (verB (Lib.cut t [10]).1) [32]).2.1 64
        simp only [Cut_is (verB (Lib.cut t [10]).1) 32 (by omega), Option.bind_some, Cut_is (Lib.cut (verB (Lib.cut t [10]).1) [32]).2.1 64 (by omega)]
        have hone : one (out.length : Int) t = if okRec (Lib.cut (Lib.cut (verB (Lib.cut t [10]).1) [32]).2.1 [64]).1 (Lib.cut (Lib.cut (verB (Lib.cut t [10]).1) [32]).2.1 [64]).2.1 = true ∧ lineB (out.length : Int) (Lib.cut (Lib.cut (verB (Lib.cut t [10]).1) [32]).2.1 [64]).1 (Lib.cut (Lib.cut (verB (Lib.cut t [10]).1) [32]).2.1 [64]).2.1 = (Lib.cut t [10]).1 ++ [10] then some ((Lib.cut (Lib.cut (verB (Lib.cut t [10]).1) [32]).2.1 [64]).1, (Lib.cut (Lib.cut (verB (Lib.cut t [10]).1) [32]).2.1 [64]).2.1) else none := by
          unfold one
          simp only [hw, if_true]
        have hcl : (Lib.cut (Lib.cut (verB (Lib.cut t [10]).1) [32]).2.1 [64]).1.length ≤ 1000000 := by omega
        have hrl : (Lib.cut (Lib.cut (verB (Lib.cut t [10]).1) [32]).2.1 [64]).2.1.length ≤ 1000000 := by omega
        clear hc3
        generalize (Lib.cut (Lib.cut (verB (Lib.cut t [10]).1) [32]).2.1 [64]).1 = c at hone hcl ⊢
        generalize (Lib.cut (Lib.cut (verB (Lib.cut t [10]).1) [32]).2.1 [64]).2.1 = r at hone hrl ⊢
        have hll : (Lib.cut t [10]).1.length ≤ 1000000 := by omega
        clear hc1 hc2 hvl hv
        generalize (Lib.cut t [10]).1 = line at hone hll ⊢
        refine (implEncode_is (out.length : Int) (by omega) (by omega)).bind ?_
        rw [encB_eq (by omega) (by omega)]
        by_cases h5 : okRec c r = true
        · rw [if_pos h5]
          simp only [lit1, bs_app, bs_size, bs_toList]
          refine Ter.ifp trivial (Ter.ifp (by omega) ?_)
          by_cases h6 : lineB (out.length : Int) c r = line ++ [10]
          · rw [if_pos ⟨h5, h6⟩] at hone
            refine Ter.ifp h6 (Ter.ifp (by omega) (Ter.ifp (by rw [List.length_append, List.length_singleton]; omega) ?_))
            have e2 := congrArg List.length h6
            simp only [List.length_append, List.length_cons, List.length_nil] at e2
            have e3 := one_len (k := (out.length : Int)) (by omega) hone
            have e3' : t.length = l.length - a := by rw [← ht_]; simp
            have e4 : wrap64 ((a : Int) + wrap64 ((line.length : Int) + 1)) = ((a + (lineB (out.length : Int) c r).length : Nat) : Int) := by
              generalize (lineB (out.length : Int) c r).length = q at e2 e3
              rw [w64 (n := (line.length : Int) + 1) (by omega) (by omega), w64 (by omega) (by omega)]
              omega
            have e6 : a + (lineB (out.length : Int) c r).length ≤ l.length := by
              generalize (lineB (out.length : Int) c r).length = q at e2 e3 ⊢
              clear e4
              omega
            rw [e4]
            refine (ih (out ++ [(⟨bs c, bs r⟩ : S47)]) (en ++ [(a : Int)]) (a + (lineB (out.length : Int) c r).length) (by rw [List.length_append, List.length_singleton]; omega) (by rw [List.length_append, List.length_singleton]; omega) e6).eq ?_
            have e5 : ((out ++ [(⟨bs c, bs r⟩ : S47)]).length : Int) = (out.length : Int) + 1 := by simp
            rw [e5]
            simp only [recs, hone, List.map_cons, endsI_cons]
            rw [← List.drop_drop, ht_, List.append_assoc, List.append_assoc]
            rfl
          · rw [if_neg (fun e => h6 e.2)] at hone
            exact Ter.ifn h6 (hstop hone)
        · rw [if_neg (fun e => h5 e.1)] at hone
          rw [if_neg h5]
          exact Ter.ifn (by decide) (hstop hone)
      · have hone : one (out.length : Int) t = none := by unfold one; rw [if_neg hw]
        exact Ter.ifn hw (hstop hone)
  unfold impl_readRecords.f
  have := key 60 [] [] 0 rfl (by simp) (by omega)
  simpa using this
end Go.Proofs.YtaceoijcjkbgfaaDoor.P
namespace Go.Proofs.YtaceoijcjkbgfaaDoor.P
open Go.RowKit Go.Proofs.YtaceoijcjkbgfaaDoorW.PrintWords Go.Proofs.YtaceoijcjkbgfaaDoorW.PrintLast Go.Proofs.YtaceoijcjkbgfaaDoorW.PrintMore
set_option linter.unusedVariables false
set_option linter.unusedSimpArgs false

theorem index_is (x : Int) (l : List Int) (hl : l.length ≤ 1000) : ∃ r : Int, Ter (fun k => slices_Index_int_int.f k l x) r ∧ (0 ≤ r ↔ x ∈ l) := by
  have key := down_ (Q := fun i => ∃ r : Int, Ter (fun k => slices_Index_int_int.l0 k l x (l.length : Int) (i : Int)) r ∧ (0 ≤ r ↔ x ∈ l.drop i)) l.length
    ⟨-1, Ter.succ (by simp only [slices_Index_int_int.l0]; exact Ter.ifn (by omega) (Ter.ret _)), by rw [List.drop_length]; simp⟩
    (fun i hi ih => by
      have hd : l.drop i = l[i] :: l.drop (i + 1) := List.drop_eq_getElem_cons hi
      by_cases h : x = l[i]
      · refine ⟨(i : Int), Ter.succ ?_, ⟨fun _ => by rw [hd, ← h]; exact List.mem_cons_self .., fun _ => by omega⟩⟩
        simp only [slices_Index_int_int.l0]
        exact Ter.ifp (by omega) (Ter.ifp (by omega) (Ter.ifp (by omega) (Ter.ifp (by rw [rd_at hi]; exact h) (Ter.ret _))))
      · obtain ⟨r, h1, h2⟩ := ih
        refine ⟨r, Ter.succ ?_, by rw [hd, List.mem_cons]; constructor; (· intro e; exact .inr (h2.1 e)); (· rintro (e | e); exact absurd e h; exact h2.2 e)⟩
        simp only [slices_Index_int_int.l0]
        refine Ter.ifp (by omega) (Ter.ifp (by omega) (Ter.ifp (by omega) (Ter.ifn (by rw [rd_at hi]; exact h) ?_)))
        rw [w64s hi (by omega)]
        exact h1) 0 (by omega)
  obtain ⟨r, h1, h2⟩ := key
  exact ⟨r, h1, by simpa using h2⟩

theorem contains_is (x : Int) (l : List Int) (hl : l.length ≤ 1000) : Ter (fun k => slices_Contains_int_int.f k l x) (decide (x ∈ l)) := by
  obtain ⟨r, h1, h2⟩ := index_is x l hl
  unfold slices_Contains_int_int.f
  refine h1.bind ((Ter.ret _).eq ?_)
  rw [decide_eq_decide]
  exact h2

/-- A log is valid. -/
def validB (D P : Bs) (n : Int) : Bool := decide (D.length + P.length ≤ 30000) && (decide (lenR 0 (recs 60 0 (D ++ P)) = D.length + P.length) && (decide (lenR 0 (recs 60 0 D) = D.length) && decide (((recs 60 0 (D ++ P)).length : Int) = n)))

theorem Ter.some_ {α : Type} {a b : α} (h : a = b) : Ter (fun _ => some a) b := (Ter.ret _).eq h

theorem specValid_is {D P : Bs} (n : Int) (hD : D.length ≤ 1048576) (hP : P.length ≤ 1048576) : Ter (fun k => spec_l12Valid.f k (bs D) (bs P) n) (validB D P n) := by
  unfold spec_l12Valid.f validB
  simp only [bs_size, bs_app, w64 (n := (D.length : Int) + (P.length : Int)) (by omega) (by omega)]
  by_cases h1 : D.length + P.length ≤ 30000
  · refine Ter.ifn (by omega) (Ter.ifp (by omega) ?_)
    refine (l12Open_is (l := D ++ P) (by rw [List.length_append]; omega)).bind ((l12Open_is (l := D) (by omega)).bind ?_)
    simp only [h1, decide_true, Bool.true_and]
    by_cases h2 : lenR 0 (recs 60 0 (D ++ P)) = D.length + P.length
    · refine Ter.ifp (by rw [h2]; omega) ?_
      by_cases h3 : lenR 0 (recs 60 0 D) = D.length
      · refine Ter.ifp (by rw [h3]) (Ter.some_ ?_)
        simp only [h2, h3, decide_true, Bool.true_and, List.length_map]
        by_cases h4 : ((recs 60 0 (D ++ P)).length : Int) = n <;> simp [h4]
      · exact Ter.ifn (by omega) (Ter.some_ (by simp [h3]))
    · exact Ter.ifn (by omega) (Ter.some_ (by simp [h2]))
  · exact Ter.ifp (by omega) (Ter.some_ (by simp [h1]))

theorem endsI_len (l : List (Bs × Bs)) : (endsI 0 0 l).length = l.length + 1 := by unfold endsI; rw [List.length_map, endsR_len]

theorem endsI_last (l : List (Bs × Bs)) : rd (endsI 0 0 l) (l.length : Int) = (lenR 0 l : Int) := by
  unfold rd endsI
  rw [List.getD_eq_getElem?_getD, List.getElem?_map, Int.toNat_natCast, endsR_last]
  simp

theorem endsI_mem (l : List (Bs × Bs)) (n : Nat) : (n : Int) ∈ endsI 0 0 l ↔ n ∈ endsR 0 0 l := by
  unfold endsI
  rw [List.mem_map]
  constructor
  · rintro ⟨m, hm, e⟩
    obtain rfl : m = n := by omega
    exact hm
  · intro h
    exact ⟨n, h, rfl⟩

theorem implValid_is {D P : Bs} (n : Int) (hD : D.length ≤ 1048576) (hP : P.length ≤ 1048576) : Ter (fun k => impl_IsValidLog.f k (bs D) (bs P) n) (validB D P n) := by
  unfold impl_IsValidLog.f validB
  simp only [bs_size, bs_app, w64 (n := (D.length : Int) + (P.length : Int)) (by omega) (by omega)]
  by_cases h1 : D.length + P.length ≤ 30000
  · refine Ter.ifn (by omega) (Ter.ifp (by omega) ?_)
    refine (readRecords_is (l := D ++ P) (by rw [List.length_append]; omega)).bind ?_
    simp only [h1, decide_true, Bool.true_and, List.length_map, endsI_len, endsI_last]
    have hm := endsI_mem (recs 60 0 (D ++ P)) D.length
    have he := ends_iff 60 0 0 D P (by omega) (by omega)
    rw [Nat.zero_add] at he
    have hl := recs_len 60 0 (D ++ P)
    refine Ter.ifp (by omega) (Ter.ifp (by omega) ?_)
    by_cases h2 : lenR 0 (recs 60 0 (D ++ P)) = D.length + P.length
    · refine Ter.ifp (by rw [h2]; omega) ?_
      by_cases h4 : ((recs 60 0 (D ++ P)).length : Int) = n
      · refine Ter.ifp h4.symm ((contains_is _ _ (by rw [endsI_len]; omega)).bind (Ter.some_ ?_))
        simp only [h2, h4, decide_true, Bool.true_and, Bool.and_true, decide_eq_decide]
        exact hm.trans he
      · exact Ter.ifn (fun e => h4 e.symm) (Ter.some_ (by simp [h4]))
    · exact Ter.ifn (by omega) (Ter.some_ (by simp [h2]))
  · exact Ter.ifp (by omega) (Ter.some_ (by simp [h1]))

theorem valid_len {D P : Bs} {n : Int} (h : validB D P n = true) : 0 ≤ n ∧ n ≤ 60 ∧ D.length + P.length ≤ 30000 := by
  unfold validB at h
  simp only [Bool.and_eq_true, decide_eq_true_eq] at h
  have := recs_len 60 0 (D ++ P)
  omega
end Go.Proofs.YtaceoijcjkbgfaaDoor.P
namespace Go.Proofs.YtaceoijcjkbgfaaDoor.P
set_option linter.unusedVariables false
set_option linter.unusedSimpArgs false

theorem recs_none {n : Nat} {k : Int} {t : Bs} (h : one k t = none) : recs n k t = [] := by
  cases n with
  | zero => rfl
  | succ n => simp only [recs, h]

theorem line_len {k : Int} (h0 : 0 ≤ k) (h1 : k < 100) {c q : Bs} (h : okRec c q = true) : (lineB k c q).length ≤ 432 := by
  have hb := body_len h0 h1 (okRec_ok h)
  have hs := seal_len (bodyB k c q)
  unfold lineB
  rw [List.length_append, List.length_singleton]
  omega

theorem valid_parts {D P : Bs} {n : Int} : validB D P n = true ↔ (D.length + P.length ≤ 30000 ∧ lenR 0 (recs 60 0 (D ++ P)) = D.length + P.length ∧ lenR 0 (recs 60 0 D) = D.length ∧ ((recs 60 0 (D ++ P)).length : Int) = n) := by
  unfold validB
  simp only [Bool.and_eq_true, decide_eq_true_eq]
end Go.Proofs.YtaceoijcjkbgfaaDoor.P
namespace Go.Proofs.YtaceoijcjkbgfaaDoor.P
set_option linter.unusedVariables false
set_option linter.unusedSimpArgs false

theorem line_in {A B L : Bs} {k : Int} {c q : Bs} (hL : lineB k c q <+: A ++ B) (hB : (10 : UInt8) ∉ B) : lineB k c q <+: A := by
  by_cases h : (lineB k c q).length ≤ A.length
  · exact List.prefix_of_prefix_length_le hL (List.prefix_append A B) h
  · exfalso
    apply hB
    have hpos := line_pos k c q
    have hle := hL.length_le
    have h1 : (lineB k c q)[(lineB k c q).length - 1]? = some 10 := by unfold lineB; simp
    have h2 : (A ++ B)[(lineB k c q).length - 1]? = some 10 := by
      obtain ⟨X, hX⟩ := hL
      rw [← hX, List.getElem?_append_left (by omega)]
      exact h1
    rw [List.getElem?_append_right (by omega)] at h2
    exact List.mem_of_getElem? h2

theorem recs_take : ∀ (n : Nat) (k : Int) (A B T : Bs), 0 ≤ k → k + n ≤ 60 → A <+: T → (10 : UInt8) ∉ B → ∃ j, recs n k (A ++ B) = (recs n k T).take j
  | 0, k, A, B, T, _, _, _, _ => ⟨0, rfl⟩
  | n + 1, k, A, B, T, hk, hk2, hA, hB => by
    cases h1 : one k (A ++ B) with
    | none => exact ⟨0, by rw [recs_none h1]; rfl⟩
    | some p =>
      obtain ⟨c, q⟩ := p
      have hs := one_starts h1
      have hLA := line_in (L := []) hs.2 hB
      obtain ⟨A', rfl⟩ := hLA
      obtain ⟨T', rfl⟩ := hA
      have hT : one k (lineB k c q ++ A' ++ T') = some (c, q) := oneL_of hk (by omega) hs.1 ⟨A' ++ T', by rw [List.append_assoc]⟩
      obtain ⟨j, hj⟩ := recs_take n (k + 1) A' B (A' ++ T') (by omega) (by omega) (List.prefix_append _ _) hB
      refine ⟨j + 1, ?_⟩
      simp only [recs, h1, hT]
      rw [List.append_assoc, List.drop_left, List.append_assoc, List.drop_left, hj]
      rfl

theorem recs_low : ∀ (n : Nat) (k : Int) (D S : Bs), 0 ≤ k → k + n ≤ 60 → D <+: S → lenR k (recs n k D) = D.length → D.length ≤ lenR k (recs n k S)
  | 0, k, D, S, _, _, _, h => by simp only [recs, lenR] at h ⊢; omega
  | n + 1, k, D, S, hk, hk2, hD, h => by
    cases h1 : one k D with
    | none =>
      rw [recs_none h1] at h
      simp only [lenR] at h
      omega
    | some p =>
      obtain ⟨c, q⟩ := p
      have hs := one_starts h1
      obtain ⟨D', rfl⟩ := hs.2
      obtain ⟨S', rfl⟩ := hD
      have hS : one k (lineB k c q ++ D' ++ S') = some (c, q) := oneL_of hk (by omega) hs.1 ⟨D' ++ S', by rw [List.append_assoc]⟩
      simp only [recs, h1, lenR, List.drop_left, List.length_append] at h
      have ih := recs_low n (k + 1) D' (D' ++ S') (by omega) (by omega) (List.prefix_append _ _) (by omega)
      simp only [recs, hS, lenR, List.length_append]
      rw [List.append_assoc, List.drop_left]
      omega

theorem recs_self : ∀ (n : Nat) (k : Int) (t : Bs), 0 ≤ k → k + n ≤ 60 → recs n k (t.take (lenR k (recs n k t))) = recs n k t
  | 0, _, _, _, _ => rfl
  | n + 1, k, t, hk, hk2 => by
    cases h1 : one k t with
    | none =>
      have e := recs_none (n := n + 1) h1
      rw [e]
      exact recs_none (one_nil hk)
    | some p =>
      obtain ⟨c, q⟩ := p
      have hs := one_starts h1
      obtain ⟨t', rfl⟩ := hs.2
      have e : recs (n + 1) k (lineB k c q ++ t') = (c, q) :: recs n (k + 1) t' := by
        simp only [recs, h1]
        rw [List.drop_left]
      have ih := recs_self n (k + 1) t' (by omega) (by omega)
      rw [e]
      simp only [lenR]
      have e2 : (lineB k c q ++ t').take ((lineB k c q).length + lenR (k + 1) (recs n (k + 1) t')) = lineB k c q ++ t'.take (lenR (k + 1) (recs n (k + 1) t')) := by
        rw [List.take_append, List.take_of_length_le (by omega), Nat.add_sub_cancel_left]
      rw [e2]
      have h2 : ∀ X : Bs, one k (lineB k c q ++ X) = some (c, q) := fun X => oneL_of hk (by omega) hs.1 ⟨X, rfl⟩
      simp only [recs, h2]
      rw [List.drop_left, ih]

theorem lenR_self (t : Bs) : validB (t.take (lenR 0 (recs 60 0 t))) [] ((recs 60 0 t).length : Int) = true ↔ lenR 0 (recs 60 0 t) ≤ 30000 := by
  have h1 := recs_self 60 0 t (by omega) (by omega)
  have h2 := lenR_le 60 0 t
  rw [valid_parts, List.append_nil, h1, List.length_nil, List.length_take]
  omega

theorem line_bytes {k : Int} (hk : 0 ≤ k) {c q : Bs} (h : okRec c q = true) : ∀ b ∈ lineB k c q, b.toNat < 128 := by
  have ho := okRec_ok h
  intro b hb
  unfold lineB sealB bodyB at hb
  simp only [List.mem_append, List.mem_cons, List.not_mem_nil, or_false] at hb
  rcases hb with ((hb | rfl | hb | rfl | hb) | rfl | hb) | rfl
  · have := itoa_digit hk b hb; omega
  · decide
  · have := (ho.c1 b hb).2.1; omega
  · decide
  · have := (ho.r1 b hb).2.1; omega
  · decide
  · have := itoa_digit (sumL_range _ 7 (by omega) (by omega)).1 b hb; omega
  · decide

theorem recs_bytes : ∀ (n : Nat) (k : Int) (t : Bs), 0 ≤ k → k + n ≤ 60 → lenR k (recs n k t) = t.length → ∀ b ∈ t, b.toNat < 128
  | 0, k, t, _, _, h, b, hb => by
    simp only [recs, lenR] at h
    rw [List.eq_nil_of_length_eq_zero h.symm] at hb
    cases hb
  | n + 1, k, t, hk, hk2, h, b, hb => by
    cases h1 : one k t with
    | none =>
      rw [recs_none h1] at h
      simp only [lenR] at h
      rw [List.eq_nil_of_length_eq_zero h.symm] at hb
      cases hb
    | some p =>
      obtain ⟨c, q⟩ := p
      have hs := one_starts h1
      obtain ⟨t', rfl⟩ := hs.2
      simp only [recs, h1, lenR, List.drop_left, List.length_append] at h
      rcases List.mem_append.1 hb with hb | hb
      · exact line_bytes hk hs.1 b hb
      · exact recs_bytes n (k + 1) t' (by omega) (by omega) (by omega) b hb

/-- What is read behind a crash: the first records, those of the durable part among them; all of them, if nothing was lost and nothing turned. -/
theorem crash_reads {D P : Bs} {n : Int} (hv : validB D P n = true) {m : Nat} (hm : m ≤ P.length) {t : Bool} (ht : t = true → 0 < m) :
    (∃ j, recs 60 0 (flipB (D ++ P.take m) t) = (recs 60 0 (D ++ P)).take j) ∧ D.length ≤ lenR 0 (recs 60 0 (flipB (D ++ P.take m) t)) ∧ (flipB (D ++ P.take m) t).length = D.length + m ∧ (t = false → m = P.length → recs 60 0 (flipB (D ++ P.take m) t) = recs 60 0 (D ++ P)) := by
  obtain ⟨h1, h2, h3, h4⟩ := valid_parts.1 hv
  have hlen : (flipB (D ++ P.take m) t).length = D.length + m := by
    have : (D ++ P.take m).length = D.length + m := by rw [List.length_append, List.length_take]; omega
    unfold flipB
    split
    · rw [List.length_set]; exact this
    · exact this
  have key : ∃ A B : Bs, flipB (D ++ P.take m) t = A ++ B ∧ A <+: D ++ P ∧ D <+: A ∧ (10 : UInt8) ∉ B := by
    cases t with
    | false => exact ⟨D ++ P.take m, [], by rw [List.append_nil]; rfl, ⟨P.drop m, by rw [List.append_assoc, List.take_append_drop]⟩, List.prefix_append _ _, by simp⟩
    | true =>
      have hm0 := ht rfl
      obtain ⟨i, rfl⟩ : ∃ i, m = i + 1 := ⟨m - 1, by omega⟩
      have hi : i < P.length := by omega
      have e1 : D ++ P.take (i + 1) = (D ++ P.take i) ++ [P[i]] := by rw [List.append_assoc, ← List.take_append_getElem hi]
      have e2 : (D ++ P.take i).length = D.length + i := by rw [List.length_append, List.length_take]; omega
      have hb : (P[i]).toNat < 128 := recs_bytes 60 0 (D ++ P) (by omega) (by omega) (by rw [List.length_append]; exact h2) _ (List.mem_append_right _ (List.getElem_mem hi))
      refine ⟨D ++ P.take i, [255 - P[i]], ?_, ⟨P.drop i, by rw [List.append_assoc, List.take_append_drop]⟩, List.prefix_append _ _, ?_⟩
      · rw [e1]
        show ((D ++ P.take i) ++ [P[i]]).set (((D ++ P.take i) ++ [P[i]]).length - 1) (255 - ((D ++ P.take i) ++ [P[i]]).getD (((D ++ P.take i) ++ [P[i]]).length - 1) 0) = _
        have e3 : ((D ++ P.take i) ++ [P[i]]).length - 1 = (D ++ P.take i).length := by rw [List.length_append, List.length_singleton]; omega
        rw [e3, List.getD_eq_getElem?_getD, List.getElem?_append_right (Nat.le_refl _), Nat.sub_self, List.set_append_right _ _ (Nat.le_refl _), Nat.sub_self]
        rfl
      · rw [List.mem_singleton]
        intro e
        have := congrArg UInt8.toNat e
        rw [UInt8.toNat_sub_of_le _ _ (by rw [UInt8.le_iff_toNat_le]; show (P[i]).toNat ≤ 255; omega)] at this
        have e5 : (10 : UInt8).toNat = 10 := rfl
        have e6 : (255 : UInt8).toNat = 255 := rfl
        omega
  obtain ⟨A, B, hs, hA, hD, hB⟩ := key
  refine ⟨?_, ?_, hlen, ?_⟩
  · rw [hs]
    exact recs_take 60 0 A B (D ++ P) (by omega) (by omega) hA hB
  · rw [hs]
    exact recs_low 60 0 D (A ++ B) (by omega) (by omega) (hD.trans (List.prefix_append _ _)) h3
  · rintro rfl rfl
    rw [show flipB (D ++ P.take P.length) false = D ++ P.take P.length from rfl, List.take_length]
end Go.Proofs.YtaceoijcjkbgfaaDoor.P
namespace Go.Proofs.YtaceoijcjkbgfaaDoor.P
open Go.RowKit Go.Proofs.YtaceoijcjkbgfaaDoorW.PrintWords Go.Proofs.YtaceoijcjkbgfaaDoorW.PrintLast Go.Proofs.YtaceoijcjkbgfaaDoorW.PrintMore
set_option linter.unusedVariables false
set_option linter.unusedSimpArgs false

/-- What both tell. -/
def appR (D P c q : Bs) (n : Int) (b : Bool) : ByteArray × ByteArray × Int × Int := bif b && okRec c q then (if n = 60 then (bs D, bs P, n, 2) else (bs D, bs (P ++ lineB n c q), n + 1, 0)) else (bs D, bs P, n, 1)

theorem specAppend_is {D P c q : Bs} {n : Int} {b : Bool} (h : Ter (fun k => spec_l12Valid.f k (bs D) (bs P) n) b) (hv : b = true → 0 ≤ n ∧ n ≤ 60 ∧ D.length + P.length ≤ 30000) (hD : D.length ≤ 1048576) (hP : P.length ≤ 1048576) (hc : c.length ≤ 1048576) (hq : q.length ≤ 1048576) : Ter (fun k => spec_AppendRecord.f k (bs D) (bs P) n (bs c) (bs q)) (appR D P c q n b) := by
  unfold spec_AppendRecord.f appR
  refine h.bind ?_
  cases b with
  | false => exact Ter.ifn (by decide) (Ter.succ (by simp only [spec_AppendRecord.j0]; exact Ter.ifp trivial (Ter.ret _)))
  | true =>
    have hn := hv rfl
    have ho0 := l12Record_is (c := c) (r := q) (by omega) (by omega)
    have ho : okRec c q = true → Ok c q := okRec_ok
    generalize okRec c q = o at ho0 ho
    refine Ter.ifp rfl (ho0.bind ?_)
    cases o with
    | false => exact Ter.succ (by simp only [spec_AppendRecord.j0]; exact Ter.ifp rfl (Ter.ret _))
    | true =>
      refine Ter.succ ?_
      simp only [spec_AppendRecord.j0, Bool.and_self, cond_true]
      refine Ter.ifn (by decide) ?_
      by_cases h60 : n = 60
      · rw [if_pos h60]
        exact Ter.ifp h60 (Ter.ret _)
      · rw [if_neg h60]
        obtain ⟨m, rfl⟩ : ∃ m : Nat, n = (m : Int) := ⟨n.toNat, by omega⟩
        refine Ter.ifn h60 ((l12Line_is m (by omega) (by omega) (by omega)).bind ?_)
        have hb := body_len (k := (m : Int)) (by omega) (by omega) (ho rfl)
        have hl := seal_len (bodyB (m : Int) c q)
        have hll : (lineB (m : Int) c q).length = (sealB (bodyB (m : Int) c q)).length + 1 := by unfold lineB; simp
        simp only [bs_size, bs_app, w64 (n := (m : Int) + 1) (by omega) (by omega)]
        exact Ter.ifp (by omega) (Ter.ret _)

theorem specSync_is {D P : Bs} {n : Int} {b : Bool} (h : Ter (fun k => spec_l12Valid.f k (bs D) (bs P) n) b) (hD : D.length ≤ 1048576) (hP : P.length ≤ 1048576) : Ter (fun k => spec_SyncLog.f k (bs D) (bs P) n) (bif b then (bs (D ++ P), bs [], n, true) else (bs [], bs [], 0, false)) := by
  unfold spec_SyncLog.f
  refine h.bind ?_
  cases b with
  | true => exact Ter.ifp rfl (Ter.ifp (by rw [bs_size, bs_size]; omega) (Ter.some_ (by rw [bs_app]; rfl)))
  | false => exact Ter.ifn (by decide) (Ter.ret _)

theorem implRecords_is {D P : Bs} {n : Int} {b : Bool} (h : Ter (fun k => impl_IsValidLog.f k (bs D) (bs P) n) b) (hv : b = true → D.length + P.length ≤ 30000) : Ter (fun k => impl_LogRecords.f k (bs D) (bs P) n) (bif b then (recs 60 0 (D ++ P)).map toRec else [], b) := by
  unfold impl_LogRecords.f
  refine h.bind ?_
  cases b with
  | true =>
    have hv := hv rfl
    refine Ter.ifp rfl (Ter.ifp (by rw [bs_size, bs_size]; omega) ?_)
    rw [bs_app]
    exact (readRecords_is (l := D ++ P) (by rw [List.length_append]; omega)).bind (Ter.some_ rfl)
  | false => exact Ter.ifn (by decide) (Ter.ret _)

theorem flip_app (A B : Bs) (t : Bool) (h : t = true → B ≠ []) : A ++ flipB B t = flipB (A ++ B) t := by
  cases t with
  | false => rfl
  | true =>
    have hB : B.length ≠ 0 := fun e => h rfl (List.eq_nil_of_length_eq_zero e)
    show A ++ B.set (B.length - 1) (255 - B.getD (B.length - 1) 0) = (A ++ B).set ((A ++ B).length - 1) (255 - (A ++ B).getD ((A ++ B).length - 1) 0)
    have e1 : (A ++ B).length - 1 = A.length + (B.length - 1) := by rw [List.length_append]; omega
    rw [e1, List.set_append_right _ _ (by omega), Nat.add_sub_cancel_left]
    congr 3
    rw [List.getD_eq_getElem?_getD, List.getD_eq_getElem?_getD, List.getElem?_append_right (by omega), Nat.add_sub_cancel_left]

theorem specCrash_is {D P : Bs} {n : Int} {b : Bool} (a1 : Int) (a2 : Bool) (h : Ter (fun k => spec_l12Valid.f k (bs D) (bs P) n) b) (hD : D.length ≤ 1048576) (hP : P.length ≤ 1048576) : Ter (fun k => spec_CrashLog.f k (bs D) (bs P) n a1 a2) (if b = true ∧ 0 ≤ a1 ∧ a1 ≤ (P.length : Int) then (bs (flipB (D ++ P.take a1.toNat) (a2 && decide (0 < a1))), true) else (bs [], false)) := by
  unfold spec_CrashLog.f
  refine h.bind ?_
  rw [bs_size, bs_size, bs_list, bs_list]
  by_cases hr : b = true ∧ 0 ≤ a1 ∧ a1 ≤ (P.length : Int)
  · simp only [if_pos hr]
    refine Ter.ifp (by omega) (Ter.some_ ?_)
    rw [flip_app]
    intro ht
    simp only [Bool.and_eq_true, decide_eq_true_eq] at ht
    intro e
    have := congrArg List.length e
    rw [List.length_take, List.length_nil] at this
    omega
  · simp only [if_neg hr]
    exact Ter.ret _

theorem implCrash_is {D P : Bs} {n : Int} {b : Bool} (a1 : Int) (a2 : Bool) (h : Ter (fun k => impl_IsValidLog.f k (bs D) (bs P) n) b) (hD : D.length ≤ 1048576) (hP : P.length ≤ 1048576) : Ter (fun k => impl_CrashLog.f k (bs D) (bs P) n a1 a2) (if b = true ∧ 0 ≤ a1 ∧ a1 ≤ (P.length : Int) then (bs (flipB (D ++ P.take a1.toNat) (a2 && decide (0 < a1))), true) else (bs [], false)) := by
  unfold impl_CrashLog.f
  refine h.bind ?_
  rw [bs_size, bs_size, bs_list, bs_list]
  by_cases hr : b = true ∧ 0 ≤ a1 ∧ a1 ≤ (P.length : Int)
  · simp only [if_pos hr]
    exact Ter.ifp (by omega) (Ter.ret _)
  · simp only [if_neg hr]
    exact Ter.ret _

/-- What both recover. -/
def rcvR (l : Bs) : ByteArray × ByteArray × Int × Int × Bool := (if l.length ≤ 30000 then (bs (l.take (lenR 0 (recs 60 0 l))), bs [], ((recs 60 0 l).length : Int), (lenR 0 (recs 60 0 l) : Int), true) else (bs [], bs [], 0, 0, false))

theorem specRecover_is {l : Bs} (hl : l.length ≤ 1000000) : Ter (fun k => spec_RecoverLog.f k (bs l)) (rcvR l) := by
  have hle := lenR_le 60 0 l
  unfold spec_RecoverLog.f rcvR
  rw [bs_size]
  by_cases h1 : l.length ≤ 30000
  · rw [if_pos h1]
    refine Ter.ifn (by omega) ((l12Open_is (by omega)).bind ?_)
    simp only [List.length_map]
    exact Ter.ifp (by omega) (Ter.ifp (by omega) (Ter.some_ (by rw [Int.toNat_natCast, bs_upto]; rfl)))
  · rw [if_neg h1]
    exact Ter.ifp (by omega) (Ter.ret _)

theorem implRecover_is {l : Bs} (hl : l.length ≤ 1000000) : Ter (fun k => impl_RecoverLog.f k (bs l)) (rcvR l) := by
  have hle := lenR_le 60 0 l
  unfold impl_RecoverLog.f rcvR
  rw [bs_size]
  by_cases h1 : l.length ≤ 30000
  · rw [if_pos h1]
    refine Ter.ifn (by omega) ((readRecords_is (by omega)).bind ?_)
    simp only [List.length_map, endsI_len, endsI_last]
    exact Ter.ifp (by omega) (Ter.ifp (by omega) (Ter.ifp (by omega) (Ter.ifp (by omega) (Ter.some_ (by rw [Int.toNat_natCast, bs_upto]; rfl)))))
  · rw [if_neg h1]
    exact Ter.ifp (by omega) (Ter.ret _)
end Go.Proofs.YtaceoijcjkbgfaaDoor.P
namespace Go.Proofs.YtaceoijcjkbgfaaDoor.P
open Go.RowKit Go.Proofs.YtaceoijcjkbgfaaDoorW.PrintWords Go.Proofs.YtaceoijcjkbgfaaDoorW.PrintLast Go.Proofs.YtaceoijcjkbgfaaDoorW.PrintMore
set_option linter.unusedVariables false
set_option linter.unusedSimpArgs false

/-- A code: bytes, not too many. -/
structure Code (A : List Int) : Prop where
  byte : ∀ z ∈ A, 0 ≤ z ∧ z ≤ 255
  len : A.length ≤ 100000

theorem and255 {x : Int} (h0 : 0 ≤ x) (h1 : x < 18446744073709551616) : 0 ≤ bits .and .u64 x 255 ∧ bits .and .u64 x 255 ≤ 255 := by
  have h : bits .and .u64 x 255 = x % 256 := bits_mask .u64 64 (by decide) wraps_u64 8 (by decide) x h0 (by omega)
  rw [h]
  omega

theorem wrapU (x : Int) : 0 ≤ IntKind.u64.wrap x ∧ IntKind.u64.wrap x < 18446744073709551616 := by
  rw [IntKind.wrap_u64]
  omega

theorem high_byte (x : Int) : 0 ≤ wrap64 (bits .and .u64 (IntKind.u64.wrap x / 1099511627776) 255) ∧ wrap64 (bits .and .u64 (IntKind.u64.wrap x / 1099511627776) 255) ≤ 255 := by
  have h1 := wrapU x
  have h := and255 (x := IntKind.u64.wrap x / 1099511627776) (by omega) (by omega)
  rw [w64 (by omega) (by omega)]
  exact h

theorem next_is {A : List Int} (hA : Code A) {a : Int} (s : Int) (h0 : 0 ≤ a) (h1 : a ≤ 1000000) : ∃ b s', spec_l1Cur_next.f A a s = some (b, a + 1, s') ∧ 0 ≤ b ∧ b ≤ 255 := by
  have hl := hA.len
  obtain ⟨i, rfl⟩ : ∃ i : Nat, a = (i : Int) := ⟨a.toNat, by omega⟩
  unfold spec_l1Cur_next.f
  rw [w64 (n := (i : Int) + 1) (by omega) (by omega)]
  by_cases c1 : (i : Int) < (A.length : Int)
  · have hi : i < A.length := by omega
    have hb := hA.byte A[i] (List.getElem_mem hi)
    rw [if_pos c1, if_pos h0, if_pos (by omega), rd_at hi, w64 (n := A[i]) (by omega) (by omega)]
    exact ⟨_, _, rfl, hb⟩
  · rw [if_neg c1, if_neg (by omega)]
    exact ⟨_, _, rfl, high_byte _⟩

theorem pick_is {A : List Int} (hA : Code A) {a : Int} (s n : Int) (h0 : 0 ≤ a) (h1 : a ≤ 900000) : ∃ r a' s', spec_l1Cur_pick.f A a s n = some (r, a', s') ∧ 0 ≤ r ∧ (r = 0 ∨ r < n) ∧ 0 ≤ a' ∧ a' ≤ a + 2 := by
  unfold spec_l1Cur_pick.f
  by_cases c1 : n ≤ 1
  · rw [if_pos c1]
    exact ⟨_, _, _, rfl, by omega, .inl rfl, by omega, by omega⟩
  · rw [if_neg c1]
    obtain ⟨b, s1, e1, hb⟩ := next_is hA s h0 (by omega)
    simp only [e1, Option.bind_some]
    by_cases c2 : n > 200
    · obtain ⟨b2, s2, e2, hb2⟩ := next_is hA s1 (a := a + 1) (by omega) (by omega)
      simp only [if_pos c2, e2, Option.bind_some, if_neg (show ¬ n = 0 by omega)]
      rw [w64 (n := b * 256) (by omega) (by omega), w64 (n := b * 256 + b2) (by omega) (by omega), tmod_is (by omega)]
      exact ⟨_, _, _, rfl, Int.emod_nonneg _ (by omega), .inr (Int.emod_lt_of_pos _ (by omega)), by omega, by omega⟩
    · simp only [if_neg c2, if_neg (show ¬ n = 0 by omega)]
      rw [tmod_is (by omega)]
      exact ⟨_, _, _, rfl, Int.emod_nonneg _ (by omega), .inr (Int.emod_lt_of_pos _ (by omega)), by omega, by omega⟩

theorem one_is_ {A : List Int} (hA : Code A) {a : Int} (s n : Int) (h0 : 0 ≤ a) (h1 : a ≤ 900000) : ∃ r a' s', spec_l1Cur_one.f A a s n = some (r, a', s') ∧ 0 ≤ a' ∧ a' ≤ a + 2 := by
  obtain ⟨r, a', s', e, h⟩ := pick_is hA s n h0 h1
  unfold spec_l1Cur_one.f
  simp only [e, Option.bind_some]
  exact ⟨_, _, _, rfl, h.2.2⟩

theorem of_is_ {A : List Int} (hA : Code A) {a : Int} (s : Int) (l : List ByteArray) (hl : 0 < l.length) (h0 : 0 ≤ a) (h1 : a ≤ 900000) : ∃ x a' s', spec_l1Cur_of.f A a s l = some (x, a', s') ∧ x ∈ l ∧ 0 ≤ a' ∧ a' ≤ a + 2 := by
  obtain ⟨r, a', s', e, hr, hr2, h⟩ := pick_is hA s (l.length : Int) h0 h1
  unfold spec_l1Cur_of.f
  simp only [e, Option.bind_some]
  have hlt : r < (l.length : Int) := by omega
  rw [if_pos hr, if_pos hlt]
  refine ⟨_, _, _, rfl, ?_, h⟩
  obtain ⟨i, rfl⟩ : ∃ i : Nat, r = (i : Int) := ⟨r.toNat, by omega⟩
  have hi : i < l.length := by omega
  have e2 : rdOf ByteArray.empty l (i : Int) = l[i] := getD_at hi
  rw [e2]
  exact List.getElem_mem hi

theorem logRecord_is {A : List Int} (hA : Code A) {a : Int} (s : Int) (h0 : 0 ≤ a) (h1 : a ≤ 800000) : ∃ c q a' s', spec_l1Cur_logRecord.f A a s = some (bs c, bs q, a', s') ∧ c.length ≤ 100 ∧ q.length ≤ 100 ∧ 0 ≤ a' ∧ a' ≤ a + 8 := by
  have z1 : ∀ x ∈ ([(⟨#[108, 105, 115, 116]⟩ : ByteArray), (⟨#[110, 101, 119, 32, 52]⟩ : ByteArray), (⟨#[120]⟩ : ByteArray), (⟨#[100, 114, 111, 112, 32, 50]⟩ : ByteArray), (⟨#[48, 32, 49]⟩ : ByteArray)] : List ByteArray), x.size ≤ 100 := by
    intro x hx
    simp only [List.mem_cons, List.not_mem_nil, or_false] at hx
    rcases hx with rfl | rfl | rfl | rfl | rfl <;> decide
  have z2 : ∀ x ∈ ([(⟨#[]⟩ : ByteArray), (⟨#[51]⟩ : ByteArray), (⟨#[63]⟩ : ByteArray), (⟨#[97, 64, 98]⟩ : ByteArray), (⟨#[51, 32, 49, 32, 50]⟩ : ByteArray)] : List ByteArray), x.size ≤ 100 := by
    intro x hx
    simp only [List.mem_cons, List.not_mem_nil, or_false] at hx
    rcases hx with rfl | rfl | rfl | rfl | rfl <;> decide
  have z3 : ∀ x ∈ ([(⟨#[]⟩ : ByteArray), (⟨#[97, 64, 98]⟩ : ByteArray), (⟨#[97, 35]⟩ : ByteArray), (⟨#[10]⟩ : ByteArray), strOfNums (List.replicate 3 0)] : List ByteArray), x.size ≤ 100 := by
    intro x hx
    simp only [List.mem_cons, List.not_mem_nil, or_false] at hx
    rcases hx with rfl | rfl | rfl | rfl | rfl <;> decide
  have z4 : ∀ x ∈ ([(⟨#[35]⟩ : ByteArray), (⟨#[10]⟩ : ByteArray), (⟨#[127]⟩ : ByteArray)] : List ByteArray), x.size ≤ 100 := by
    intro x hx
    simp only [List.mem_cons, List.not_mem_nil, or_false] at hx
    rcases hx with rfl | rfl | rfl <;> decide
  have fin : ∀ (c q : ByteArray) (a' s' : Int), c.size ≤ 100 → q.size ≤ 100 → 0 ≤ a' → a' ≤ a + 8 → ∃ c2 q2 a2 s2, (some (c, q, a', s') : Option (ByteArray × ByteArray × Int × Int)) = some (bs c2, bs q2, a2, s2) ∧ c2.length ≤ 100 ∧ q2.length ≤ 100 ∧ 0 ≤ a2 ∧ a2 ≤ a + 8 := by
    intro c q a' s' hc hq h2 h3
    refine ⟨c.data.toList, q.data.toList, a', s', by rw [← bs_of, ← bs_of], ?_, ?_, h2, h3⟩
    · rw [← bs_size, ← bs_of]; exact hc
    · rw [← bs_size, ← bs_of]; exact hq
  unfold spec_l1Cur_logRecord.f
  obtain ⟨c, a1, s1, e1, m1, h2⟩ := of_is_ hA s ([(⟨#[108, 105, 115, 116]⟩ : ByteArray), (⟨#[110, 101, 119, 32, 52]⟩ : ByteArray), (⟨#[120]⟩ : ByteArray), (⟨#[100, 114, 111, 112, 32, 50]⟩ : ByteArray), (⟨#[48, 32, 49]⟩ : ByteArray)] : List ByteArray) (by decide) h0 (by omega)
  simp only [e1, Option.bind_some]
  obtain ⟨q, a2, s2, e2, m2, h3⟩ := of_is_ hA s1 ([(⟨#[]⟩ : ByteArray), (⟨#[51]⟩ : ByteArray), (⟨#[63]⟩ : ByteArray), (⟨#[97, 64, 98]⟩ : ByteArray), (⟨#[51, 32, 49, 32, 50]⟩ : ByteArray)] : List ByteArray) (by decide) h2.1 (by omega)
  simp only [e2, Option.bind_some]
  obtain ⟨r, a3, s3, e3, _, _, h4⟩ := pick_is hA s2 24 h3.1 (by omega)
  simp only [e3, Option.bind_some]
  by_cases c1 : r = 0
  · obtain ⟨c', a4, s4, e4, m4, h5⟩ := of_is_ hA s3 ([(⟨#[]⟩ : ByteArray), (⟨#[97, 64, 98]⟩ : ByteArray), (⟨#[97, 35]⟩ : ByteArray), (⟨#[10]⟩ : ByteArray), strOfNums (List.replicate 3 0)] : List ByteArray) (by decide) h4.1 (by omega)
    simp only [if_pos c1, e4, Option.bind_some, show (3 : Nat) ≤ 281474976710656 from by decide, if_true]
    exact fin _ _ _ _ (z3 _ m4) (z2 _ m2) h5.1 (by omega)
  · by_cases c2 : r = 1
    · obtain ⟨c', a4, s4, e4, m4, h5⟩ := of_is_ hA s3 ([(⟨#[35]⟩ : ByteArray), (⟨#[10]⟩ : ByteArray), (⟨#[127]⟩ : ByteArray)] : List ByteArray) (by decide) h4.1 (by omega)
      simp only [if_neg c1, if_pos c2, e4, Option.bind_some]
      exact fin _ _ _ _ (z1 _ m1) (z4 _ m4) h5.1 (by omega)
    · simp only [if_neg c1, if_neg c2]
      exact fin _ _ _ _ (z1 _ m1) (z2 _ m2) h4.1 (by omega)

theorem cut_size (x : ByteArray) (i j : Nat) : (x.extract i j).size ≤ x.size := by rw [ByteArray.size_extract]; omega

theorem spoilt_is {A : List Int} (hA : Code A) {a : Int} (s : Int) (x y : ByteArray) (hx : x.size ≤ 1000000) (hy : 1 ≤ y.size) (hy2 : y.size ≤ 100) (h0 : 0 ≤ a) (h1 : a ≤ 800000) : ∃ t a' s', spec_l1Cur_spoilt.f A a s x y = some (t, a', s') ∧ t.size ≤ x.size + 1 ∧ 0 ≤ a' ∧ a' ≤ a + 6 := by
  unfold spec_l1Cur_spoilt.f
  by_cases c0 : x.toList = ([] : List UInt8)
  · simp only [if_pos c0, show (0 : Int) ≤ 1 from by decide, if_true, if_pos (show (1 : Int) ≤ (y.size : Int) by omega)]
    exact ⟨_, _, _, rfl, by rw [ByteArray.size_extract]; omega, h0, by omega⟩
  · simp only [if_neg c0]
    have hx1 : 1 ≤ x.size := by
      by_cases hz : x.size = 0
      · exfalso
        apply c0
        rw [toList_is]
        exact List.eq_nil_of_length_eq_zero (by simpa using hz)
      · omega
    obtain ⟨p, a1, s1, e1, p0, p1, h2⟩ := pick_is hA s (x.size : Int) h0 (by omega)
    simp only [e1, Option.bind_some]
    obtain ⟨q, a2, s2, e2, q0, q1, h3⟩ := pick_is hA s1 (y.size : Int) h2.1 (by omega)
    simp only [e2, Option.bind_some]
    obtain ⟨i, rfl⟩ : ∃ i : Nat, p = (i : Int) := ⟨p.toNat, by omega⟩
    obtain ⟨j, rfl⟩ : ∃ j : Nat, q = (j : Int) := ⟨q.toNat, by omega⟩
    have hi : i < x.size := by omega
    have hj : j < y.size := by omega
    rw [w64 (n := (i : Int) + 1) (by omega) (by omega)]
    simp only [Int.toNat_natCast]
    have y1 : (y.extract j y.size).size = y.size - j := by rw [ByteArray.size_extract]; omega
    have y2 : ((y.extract j y.size).extract 0 1).size = 1 := by rw [ByteArray.size_extract, y1]; omega
    have x1 : (x.extract 0 i).size = i := by rw [ByteArray.size_extract]; omega
    have x2 : (x.extract i x.size).size = x.size - i := by rw [ByteArray.size_extract]; omega
    have x3 : (x.extract ((i : Int) + 1).toNat x.size).size = x.size - (i + 1) := by rw [ByteArray.size_extract]; omega
    rw [if_pos (by omega), if_pos (by omega), if_pos (by omega), if_pos (by rw [y1]; omega)]
    obtain ⟨r, a3, s3, e3, r0, r1, h4⟩ := pick_is hA s2 3 h3.1 (by omega)
    simp only [e3, Option.bind_some]
    by_cases c1 : r = 0
    · rw [if_pos c1, if_pos (by omega), if_pos (by omega), if_pos (by rw [x1, y2]; omega), if_pos (by rw [ByteArray.size_append, x1, y2, x2]; omega)]
      exact ⟨_, _, _, rfl, by rw [ByteArray.size_append, ByteArray.size_append, x1, y2, x2]; omega, h4.1, by omega⟩
    · rw [if_neg c1]
      by_cases c2 : r = 1
      · rw [if_pos c2, if_pos (by omega), if_pos (by omega), if_pos (by rw [x1, y2]; omega), if_pos (by omega), if_pos (by omega), if_pos (by rw [ByteArray.size_append, x1, y2, x3]; omega)]
        exact ⟨_, _, _, rfl, by rw [ByteArray.size_append, ByteArray.size_append, x1, y2, x3]; omega, h4.1, by omega⟩
      · rw [if_neg c2, if_pos (by omega), if_pos (by omega), if_pos (by omega), if_pos (by omega), if_pos (by rw [x1, x3]; omega)]
        exact ⟨_, _, _, rfl, by rw [ByteArray.size_append, x1, x3]; omega, h4.1, by omega⟩

/-- What an append leaves: a little more. -/
theorem append_small {D P c q : Bs} {n : Int} (hD : D.length ≤ 1000000) (hP : P.length ≤ 1000000) (hc : c.length ≤ 1000000) (hq : q.length ≤ 1000000) : ∃ D' P' n' x, Ter (fun k => spec_AppendRecord.f k (bs D) (bs P) n (bs c) (bs q)) (bs D', bs P', n', x) ∧ D'.length + P'.length ≤ D.length + P.length + 500 := by
  have h := specAppend_is (specValid_is n (D := D) (P := P) (by omega) (by omega)) (fun h => valid_len h) (by omega) (by omega) (c := c) (q := q) (by omega) (by omega)
  unfold appR at h
  cases hv : validB D P n with
  | false => rw [hv] at h; exact ⟨D, P, n, 1, h, by omega⟩
  | true =>
    rw [hv] at h
    cases ho : okRec c q with
    | false => rw [ho] at h; exact ⟨D, P, n, 1, h, by omega⟩
    | true =>
      rw [ho] at h
      have hn := valid_len hv
      by_cases h60 : n = 60
      · simp only [Bool.and_self, cond_true, if_pos h60] at h
        exact ⟨D, P, n, 2, h, by omega⟩
      · simp only [Bool.and_self, cond_true, if_neg h60] at h
        have hl := line_len (k := n) (by omega) (by omega) ho
        exact ⟨D, P ++ lineB n c q, n + 1, 0, h, by rw [List.length_append]; omega⟩

theorem sync_small {D P : Bs} {n : Int} (hD : D.length ≤ 1000000) (hP : P.length ≤ 1000000) : ∃ D' P' n' x, Ter (fun k => spec_SyncLog.f k (bs D) (bs P) n) (bs D', bs P', n', x) ∧ D'.length + P'.length ≤ D.length + P.length := by
  have h := specSync_is (specValid_is n (D := D) (P := P) (by omega) (by omega)) (by omega) (by omega)
  cases hv : validB D P n with
  | false => rw [hv] at h; exact ⟨[], [], 0, false, h, by simp⟩
  | true => rw [hv] at h; exact ⟨D ++ P, [], n, true, h, by simp⟩
end Go.Proofs.YtaceoijcjkbgfaaDoor.P
namespace Go.Proofs.YtaceoijcjkbgfaaDoor.P
open Go.RowKit Go.Proofs.YtaceoijcjkbgfaaDoorW.PrintWords Go.Proofs.YtaceoijcjkbgfaaDoorW.PrintLast Go.Proofs.YtaceoijcjkbgfaaDoorW.PrintMore
set_option linter.unusedVariables false
set_option linter.unusedSimpArgs false

theorem log12_l {A : List Int} (hA : Code A) (j : Nat) : ∀ (D P : Bs) (n a s : Int), D.length + P.length + 500 * j ≤ 900000 → 0 ≤ a → a + 20 * j ≤ 700000 → ∃ D' P' n' a' s', Ter (fun k => spec_l1Cur_log12.l0 k (j : Int) A a s (bs D) (bs P) n) (bs D', bs P', n', a', s') ∧ D'.length + P'.length ≤ D.length + P.length + 500 * j ∧ 0 ≤ a' ∧ a' ≤ a + 20 * j := by
  induction j with
  | zero =>
    intro D P n a s _ h0 _
    exact ⟨D, P, n, a, s, Ter.succ (by simp only [spec_l1Cur_log12.l0]; exact Ter.ifn (by omega) (Ter.ret _)), by omega, h0, by omega⟩
  | succ j ih =>
    intro D P n a s hl h0 h1
    obtain ⟨c, q, a1, s1, e1, hc, hq, h2⟩ := logRecord_is hA s h0 (by omega)
    obtain ⟨D1, P1, n1, x1, t1, hl1⟩ := append_small (n := n) (D := D) (P := P) (c := c) (q := q) (by omega) (by omega) (by omega) (by omega)
    obtain ⟨b, a2, s2, e2, h3⟩ := one_is_ hA s1 4 h2.1 (by omega)
    have ej : wrap64 (((j + 1 : Nat) : Int) - 1) = (j : Int) := by rw [w64 (by omega) (by omega)]; omega
    cases b with
    | true =>
      obtain ⟨D2, P2, n2, x2, t2, hl2⟩ := sync_small (n := n1) (D := D1) (P := P1) (by omega) (by omega)
      obtain ⟨D', P', n', a', s', t, hl', h4⟩ := ih D2 P2 n2 a2 s2 (by omega) h3.1 (by omega)
      refine ⟨D', P', n', a', s', Ter.succ ?_, by omega, h4.1, by omega⟩
      simp only [spec_l1Cur_log12.l0, ej]
      exact Ter.ifp (by omega) (Ter.bind (Ter.const e1) (t1.bind (Ter.bind (Ter.const e2) (Ter.ifp rfl (t2.bind t)))))
    | false =>
      obtain ⟨D', P', n', a', s', t, hl', h4⟩ := ih D1 P1 n1 a2 s2 (by omega) h3.1 (by omega)
      refine ⟨D', P', n', a', s', Ter.succ ?_, by omega, h4.1, by omega⟩
      simp only [spec_l1Cur_log12.l0, ej]
      exact Ter.ifp (by omega) (Ter.bind (Ter.const e1) (t1.bind (Ter.bind (Ter.const e2) (Ter.ifn (by simp) t))))

theorem log12_is {A : List Int} (hA : Code A) {a : Int} (s : Int) (h0 : 0 ≤ a) (h1 : a ≤ 600000) : ∃ D P n a' s', Ter (fun k => spec_l1Cur_log12.f k A a s) (bs D, bs P, n, a', s') ∧ D.length + P.length ≤ 4000 ∧ 0 ≤ a' ∧ a' ≤ a + 200 := by
  obtain ⟨r, a1, s1, e1, r0, r1, h2⟩ := pick_is hA s 7 h0 (by omega)
  obtain ⟨j, rfl⟩ : ∃ j : Nat, r = (j : Int) := ⟨r.toNat, by omega⟩
  obtain ⟨D', P', n', a', s', t, hl', h4⟩ := log12_l hA j [] [] 0 a1 s1 (by simp only [List.length_nil]; omega) h2.1 (by omega)
  refine ⟨D', P', n', a', s', ?_, by simp only [List.length_nil] at hl'; omega, h4.1, by omega⟩
  unfold spec_l1Cur_log12.f
  simp only [e1, Option.bind_some]
  exact t

theorem anyLog_is {A : List Int} (hA : Code A) {a : Int} (s : Int) (h0 : 0 ≤ a) (h1 : a ≤ 500000) : ∃ D P n a' s', Ter (fun k => spec_l1Cur_anyLog.f k A a s) (bs D, bs P, n, a', s') ∧ D.length + P.length ≤ 10000 ∧ 0 ≤ a' ∧ a' ≤ a + 300 := by
  obtain ⟨D, P, n, a1, s1, t1, hl, h2⟩ := log12_is hA s h0 (by omega)
  obtain ⟨r, a2, s2, e2, _, _, h3⟩ := pick_is hA s1 24 h2.1 (by omega)
  by_cases c1 : r = 0
  · refine ⟨D, P, wrap64 (n + 1), a2, s2, t1.bind ?_, by omega, h3.1, by omega⟩
    simp only [e2, Option.bind_some]
    exact Ter.ifp c1 (Ter.ret _)
  · by_cases c2 : r = 1
    · obtain ⟨t, a3, s3, e3, hz, h4⟩ := spoilt_is hA s2 (bs P) (⟨#[35, 64, 10, 48, 49]⟩ : ByteArray) (by rw [bs_size]; omega) (by decide) (by decide) h3.1 (by omega)
      rw [bs_size] at hz
      have hz2 : t.data.toList.length ≤ P.length + 1 := by rw [← bs_size, ← bs_of]; exact hz
      refine ⟨D, t.data.toList, n, a3, s3, t1.bind ?_, by omega, h4.1, by omega⟩
      simp only [e2, e3, Option.bind_some]
      exact Ter.ifn c1 (Ter.ifp c2 (Ter.some_ (by rw [← bs_of])))
    · by_cases c3 : r = 2
      · refine ⟨D ++ P, P, n, a2, s2, t1.bind ?_, by rw [List.length_append]; omega, h3.1, by omega⟩
        simp only [e2, Option.bind_some]
        exact Ter.ifn c1 (Ter.ifn c2 (Ter.ifp c3 (Ter.ifp (by rw [bs_size, bs_size]; omega) (Ter.some_ (by rw [bs_app])))))
      · refine ⟨D, P, n, a2, s2, t1.bind ?_, by omega, h3.1, by omega⟩
        simp only [e2, Option.bind_some]
        exact Ter.ifn c1 (Ter.ifn c2 (Ter.ifn c3 (Ter.ret _)))

theorem vCut_is {A : List Int} (hA : ∀ z ∈ A, 0 ≤ z ∧ z ≤ 255) (hl : A.length ≤ 65536) (m : Nat) : ∃ B, laws_vCut.f A (m : Int) = some B ∧ Code B := by
  unfold laws_vCut.f
  have key : ∀ i : Nat, i ≤ A.length → ∃ B, (some ([] ++ A.drop i ++ [(i : Int) % 256]) : Option (List Int)) = some B ∧ Code B := by
    intro i hi
    refine ⟨_, rfl, ?_, ?_⟩
    · intro z hz
      simp only [List.nil_append, List.mem_append, List.mem_singleton] at hz
      rcases hz with hz | rfl
      · exact hA z (List.mem_of_mem_drop hz)
      · omega
    · simp only [List.nil_append, List.length_append, List.length_drop, List.length_singleton]; omega
  by_cases c1 : (m : Int) > (A.length : Int)
  · rw [if_pos c1]
    simp only [Option.bind_some, Int.toNat_natCast, List.length_nil, List.nil_append, List.length_drop, Nat.sub_self]
    rw [if_pos (by omega), if_pos (by omega), if_pos (by omega), if_pos (by omega)]
    exact key A.length (Nat.le_refl _)
  · rw [if_neg c1]
    simp only [Option.bind_some, Int.toNat_natCast, List.length_nil, List.nil_append, List.length_drop]
    rw [if_pos (by omega), if_pos (by omega), if_pos (by omega), if_pos (by omega)]
    exact key m (by omega)

theorem vRecords_is (R : List S47) (hR : R.length ≤ 1000) : Ter (fun k => laws_vRecords.f k R R) true := by
  unfold laws_vRecords.f
  refine Ter.ifp rfl ?_
  exact down_ (Q := fun i => Ter (fun k => laws_vRecords.l0 k R R (i : Int)) true) R.length
    (Ter.succ (by simp only [laws_vRecords.l0]; exact Ter.ifn (by omega) (Ter.ret _)))
    (fun i hi ih => by
      refine Ter.succ ?_
      simp only [laws_vRecords.l0, w64s hi (show R.length ≤ 9223372036854775807 by omega)]
      exact Ter.ifp (by omega) (Ter.ifp (by omega) (Ter.ifp (by omega) (Ter.ifn (by simp) ih)))) 0 (by omega)
end Go.Proofs.YtaceoijcjkbgfaaDoor.P
namespace Go.Proofs.YtaceoijcjkbgfaaDoor.P
open Go.RowKit Go.Proofs.YtaceoijcjkbgfaaDoorW.PrintWords Go.Proofs.YtaceoijcjkbgfaaDoorW.PrintLast Go.Proofs.YtaceoijcjkbgfaaDoorW.PrintMore
set_option linter.unusedVariables false
set_option linter.unusedSimpArgs false

theorem nums_size (n : Nat) : (strOfNums (List.replicate n 0)).size = n := by
  unfold strOfNums
  simp [ByteArray.size]

theorem DrawCrashLog_is {A : List Int} (hA : Code A) : ∃ D P n m t, Ter (fun k => spec_DrawCrashLog.f k A) (bs D, bs P, n, m, t) ∧ D.length + P.length ≤ 10000 := by
  obtain ⟨D, P, n, a1, s1, t1, hl, h1⟩ := anyLog_is hA 0 (a := 0) (by omega) (by omega)
  obtain ⟨r, a2, s2, e2, r0, r1, h2⟩ := pick_is hA s1 (wrap64 (((bs P).size : Int) + 3)) h1.1 (by omega)
  obtain ⟨b, a3, s3, e3, h3⟩ := one_is_ hA s2 2 h2.1 (by omega)
  exact ⟨D, P, n, wrap64 (r - 1), b, t1.bind (Ter.bind (Ter.const e2) (Ter.bind (Ter.const e3) (Ter.ret _))), hl⟩

theorem DrawRecover_j {A : List Int} (hA : Code A) (x : ByteArray) (hx : x.size ≤ 100000) {a : Int} (s : Int) (h0 : 0 ≤ a) (h1 : a ≤ 600000) : ∃ t : ByteArray, Ter (fun k => spec_DrawRecoverLog.j0 k x A a s) t ∧ t.size ≤ 100000 := by
  obtain ⟨b, a2, s2, e2, h2⟩ := one_is_ hA s 40 h0 (by omega)
  cases b with
  | true =>
    obtain ⟨r, a3, s3, e3, r0, r1, h3⟩ := pick_is hA s2 2 h2.1 (by omega)
    obtain ⟨j, hj⟩ : ∃ j : Nat, wrap64 (30000 + r) = (j : Int) := ⟨(30000 + r).toNat, by rw [w64 (by omega) (by omega)]; omega⟩
    have hj2 : j ≤ 40000 := by rw [w64 (by omega) (by omega)] at hj; omega
    refine ⟨strOfNums (List.replicate j 0), Ter.succ ?_, by rw [nums_size]; omega⟩
    simp only [spec_DrawRecoverLog.j0]
    refine Ter.bind (Ter.const e2) (Ter.ifp rfl (Ter.bind (Ter.const e3) ?_))
    simp only [hj, Int.toNat_natCast]
    exact Ter.ifp (by omega) (Ter.ifp (by omega) (Ter.ret _))
  | false =>
    refine ⟨x, Ter.succ ?_, hx⟩
    simp only [spec_DrawRecoverLog.j0]
    exact Ter.bind (Ter.const e2) (Ter.ifn (by simp) (Ter.ret _))

theorem DrawRecoverLog_is {A : List Int} (hA : Code A) : ∃ t : ByteArray, Ter (fun k => spec_DrawRecoverLog.f k A) t ∧ t.size ≤ 100000 := by
  obtain ⟨D, P, n, a1, s1, t1, hl, h1⟩ := log12_is hA 0 (a := 0) (by omega) (by omega)
  obtain ⟨r, a2, s2, e2, _, _, h2⟩ := pick_is hA s1 4 h1.1 (by omega)
  have hz : (bs D ++ bs P).size ≤ 4000 := by rw [bs_app, bs_size, List.length_append]; exact hl
  by_cases c1 : r = 0
  · obtain ⟨t, a3, s3, e3, ht, h3⟩ := spoilt_is hA s2 (bs D ++ bs P) (⟨#[35, 64, 10, 48, 49]⟩ : ByteArray) (by omega) (by decide) (by decide) h2.1 (by omega)
    obtain ⟨u, hu, hu2⟩ := DrawRecover_j hA t (by omega) s3 h3.1 (by omega)
    exact ⟨u, t1.bind (Ter.ifp (by rw [bs_size, bs_size]; omega) (Ter.bind (Ter.const e2) (Ter.ifp c1 (Ter.bind (Ter.const e3) hu)))), hu2⟩
  · by_cases c2 : r = 1
    · obtain ⟨m, a3, s3, e3, m0, m1, h3⟩ := pick_is hA s2 (wrap64 (((bs D ++ bs P).size : Int) + 1)) h2.1 (by omega)
      have e5 : wrap64 (((bs D ++ bs P).size : Int) + 1) = ((bs D ++ bs P).size : Int) + 1 := w64 (by omega) (by omega)
      have m2 : m ≤ ((bs D ++ bs P).size : Int) := by rw [e5] at m1; omega
      obtain ⟨u, hu, hu2⟩ := DrawRecover_j hA ((bs D ++ bs P).extract 0 (m : Int).toNat) (by have := cut_size (bs D ++ bs P) 0 m.toNat; omega) s3 h3.1 (by omega)
      exact ⟨u, t1.bind (Ter.ifp (by rw [bs_size, bs_size]; omega) (Ter.bind (Ter.const e2) (Ter.ifn c1 (Ter.ifp c2 (Ter.bind (Ter.const e3) (Ter.ifp m0 (Ter.ifp m2 hu))))))), hu2⟩
    · by_cases c3 : r = 2
      · obtain ⟨m, a3, s3, e3, m0, m1, h3⟩ := pick_is hA s2 4 h2.1 (by omega)
        obtain ⟨i, rfl⟩ : ∃ i : Nat, m = (i : Int) := ⟨m.toNat, by omega⟩
        obtain ⟨c, q, a4, s4, e4, hc, hq, h4⟩ := logRecord_is hA s3 h3.1 (by omega)
        have hL := l12Line_is (c := c) (r := q) i (by omega) (by omega) (by omega)
        have hll : (lineB (i : Int) c q).length ≤ 1000 := by
          have hi := itoa_len (n := (i : Int)) (by omega) 1 (by omega)
          have hb := seal_len (bodyB (i : Int) c q)
          have hb2 : (bodyB (i : Int) c q).length = (Lib.itoa (i : Int)).length + 1 + c.length + 1 + q.length := by unfold bodyB; simp only [List.length_append, List.length_cons]; omega
          unfold lineB
          rw [List.length_append, List.length_singleton]
          omega
        have hz2 : ((bs D ++ bs P) ++ bs (lineB (i : Int) c q)).size ≤ 5000 := by rw [ByteArray.size_append, bs_size (lineB _ _ _)]; omega
        obtain ⟨u, hu, hu2⟩ := DrawRecover_j hA ((bs D ++ bs P) ++ bs (lineB (i : Int) c q)) (by omega) s4 h4.1 (by omega)
        exact ⟨u, t1.bind (Ter.ifp (by rw [bs_size, bs_size]; omega) (Ter.bind (Ter.const e2) (Ter.ifn c1 (Ter.ifn c2 (Ter.ifp c3 (Ter.bind (Ter.const e3) (Ter.bind (Ter.const e4) (hL.bind (Ter.ifp (by show (bs D ++ bs P).size + (bs (lineB (i : Int) c q)).size ≤ 9223372036854775807; rw [bs_size (lineB _ _ _)]; omega) hu))))))))), hu2⟩
      · obtain ⟨u, hu, hu2⟩ := DrawRecover_j hA (bs D ++ bs P) (by omega) s2 h2.1 (by omega)
        exact ⟨u, t1.bind (Ter.ifp (by rw [bs_size, bs_size]; omega) (Ter.bind (Ter.const e2) (Ter.ifn c1 (Ter.ifn c2 (Ter.ifn c3 hu))))), hu2⟩
end Go.Proofs.YtaceoijcjkbgfaaDoor.P
namespace Go.Proofs.YtaceoijcjkbgfaaDoor.P
open Go.RowKit Go.Proofs.YtaceoijcjkbgfaaDoorW.PrintWords Go.Proofs.YtaceoijcjkbgfaaDoorW.PrintLast Go.Proofs.YtaceoijcjkbgfaaDoorW.PrintMore
set_option linter.unusedVariables false
set_option linter.unusedSimpArgs false

theorem crashes_j1 {D P Y : Bs} {n m : Int} {t : Bool} {j : Nat} (hv : validB D P n = true) (hj : recs 60 0 Y = (recs 60 0 (D ++ P)).take j) (hY : Y.length ≤ 30000) (hm : m ≤ (P.length : Int)) (hf : t = false → m = (P.length : Int) → recs 60 0 Y = recs 60 0 (D ++ P)) : Ter (fun k => laws_FnCrashes.j1 k m t false (bs D) (bs P) n (bs (Y.take (lenR 0 (recs 60 0 Y)))) (bs []) ((recs 60 0 Y).length : Int)) true := by
  refine Ter.succ ?_
  simp only [laws_FnCrashes.j1]
  refine Ter.ifn (by decide) ?_
  have hn := valid_len hv
  have hle := lenR_le 60 0 Y
  have hvs := (lenR_self Y).2 (by omega)
  have hI1 : Ter (fun k => impl_IsValidLog.f k (bs D) (bs P) n) true := by
    have := implValid_is n (D := D) (P := P) (by omega) (by omega)
    rw [hv] at this
    exact this
  have hR1 := implRecords_is hI1 (fun _ => hn.2.2)
  have hI2 : Ter (fun k => impl_IsValidLog.f k (bs (Y.take (lenR 0 (recs 60 0 Y)))) (bs []) ((recs 60 0 Y).length : Int)) true := by
    have := implValid_is ((recs 60 0 Y).length : Int) (D := Y.take (lenR 0 (recs 60 0 Y))) (P := []) (by rw [List.length_take]; omega) (by decide)
    rw [hvs] at this
    exact this
  have hR2 := implRecords_is hI2 (fun _ => (valid_len hvs).2.2)
  rw [List.append_nil, recs_self 60 0 Y (by omega) (by omega)] at hR2
  simp only [cond_true] at hR1 hR2
  have hlen := recs_len 60 0 (D ++ P)
  generalize recs 60 0 (D ++ P) = R at hj hf hR1 hlen
  generalize recs 60 0 Y = S at hj hf hR1 hR2
  refine hR1.bind (hR2.bind ?_)
  have e1 : S.length = min j R.length := by rw [hj, List.length_take]
  have e2 : (R.map toRec).take (((S.map toRec).length : Int) : Int).toNat = S.map toRec := by
    rw [Int.toNat_natCast, List.length_map, ← List.map_take, e1, hj]
    exact congrArg (List.map toRec) List.take_eq_take_min.symm
  simp only [e2]
  refine Ter.ifp (by simp only [List.length_map]; omega) (Ter.ifp (by omega) ((vRecords_is (S.map toRec) (by rw [List.length_map]; omega)).bind (Ter.ifp rfl ?_)))
  cases t with
  | true => exact Ter.ifp rfl (Ter.ret _)
  | false =>
    refine Ter.ifn (by decide) ?_
    by_cases h : m < ((bs P).size : Int)
    · exact Ter.ifp h (Ter.ret _)
    · refine Ter.ifn h (Ter.some_ ?_)
      rw [bs_size] at h
      rw [hf rfl (by omega)]
      simp

theorem crashes_j0 {D P : Bs} {n m : Int} {t ok : Bool} {y : ByteArray} (hD : D.length ≤ 200000) (hP : P.length ≤ 200000) (hy : (if validB D P n = true ∧ 0 ≤ m ∧ m ≤ (P.length : Int) then (bs (flipB (D ++ P.take m.toNat) (t && decide (0 < m))), true) else (bs [], false)) = (y, ok)) : Ter (fun k => laws_FnCrashes.j0 k m t y ok false (bs D) (bs P) n) true := by
  refine Ter.succ ?_
  simp only [laws_FnCrashes.j0]
  refine Ter.ifn (by decide) ?_
  by_cases h : validB D P n = true ∧ 0 ≤ m ∧ m ≤ (P.length : Int)
  · rw [if_pos h] at hy
    simp only [Prod.mk.injEq] at hy
    obtain ⟨rfl, rfl⟩ := hy
    obtain ⟨hv, h0, h1⟩ := h
    have hn := valid_len hv
    obtain ⟨⟨j, c1⟩, c2, c3, c4⟩ := crash_reads hv (m := m.toNat) (by omega) (t := t && decide (0 < m)) (fun e => by
      simp only [Bool.and_eq_true, decide_eq_true_eq] at e
      omega)
    have hf : t = false → m = (P.length : Int) → recs 60 0 (flipB (D ++ P.take m.toNat) (t && decide (0 < m))) = recs 60 0 (D ++ P) := fun e e2 => c4 (by rw [e]; rfl) (by omega)
    clear c4
    generalize flipB (D ++ P.take m.toNat) (t && decide (0 < m)) = Y at c1 c2 c3 hf
    have hY : Y.length ≤ 30000 := by omega
    have hJ := crashes_j1 hv c1 hY h1 hf
    have hRc := implRecover_is (l := Y) (by omega)
    unfold rcvR at hRc
    rw [if_pos hY] at hRc
    have hle := lenR_le 60 0 Y
    have hvs := (lenR_self Y).2 (by omega)
    have hI2 : Ter (fun k => impl_IsValidLog.f k (bs (Y.take (lenR 0 (recs 60 0 Y)))) (bs []) ((recs 60 0 Y).length : Int)) true := by
      have := implValid_is ((recs 60 0 Y).length : Int) (D := Y.take (lenR 0 (recs 60 0 Y))) (P := []) (by rw [List.length_take]; omega) (by decide)
      rw [hvs] at this
      exact this
    refine Ter.ifp rfl (hRc.bind (Ter.ifp rfl (hI2.bind (Ter.ifp rfl (Ter.ifn (by rw [bs_size]; dsimp only; omega) ?_)))))
    refine Ter.congr (fun k => ?_) hJ
    congr 1
    rw [bs_size, List.length_take, Nat.min_eq_left hle]
    simp
  · rw [if_neg h] at hy
    simp only [Prod.mk.injEq] at hy
    obtain ⟨rfl, rfl⟩ := hy
    exact Ter.ifn (by decide) (Ter.ret _)

theorem FnCrashes.pure (l0 : List Int) (W0 : l0.length ≤ maxLen ∧ ∀ z ∈ l0, (Lit.int .u8 z).wf = true) : ∃ k, laws_FnCrashes.f k l0 = some true := by
  have hb : ∀ z ∈ l0, 0 ≤ z ∧ z ≤ 255 := fun z hz => by
    have := W0.2 z hz
    simp only [Lit.wf, Bool.and_eq_true, decide_eq_true_eq] at this
    exact this
  have key : Ter (fun k => laws_FnCrashes.f k l0) true := by
    unfold laws_FnCrashes.f
    refine Ter.bind (Ter.const (show laws_vBig.f l0 = some (decide ((l0.length : Int) > 65536)) from rfl)) ?_
    by_cases h0 : (l0.length : Int) > 65536
    · exact Ter.ifp (decide_eq_true h0) (Ter.ret _)
    · refine Ter.ifn (by simp only [decide_eq_true_eq]; exact h0) ?_
      have hA : Code l0 := ⟨hb, by omega⟩
      obtain ⟨D, P, n, m, t, t1, hl⟩ := DrawCrashLog_is hA
      obtain ⟨A1, v1, hA1⟩ := vCut_is hb (by omega) 1
      obtain ⟨u, t2, hu⟩ := DrawRecoverLog_is hA1
      obtain ⟨l, rfl⟩ : ∃ l, u = bs l := ⟨_, bs_of _⟩
      rw [bs_size] at hu
      have hC1 := specCrash_is m t (specValid_is n (D := D) (P := P) (by omega) (by omega)) (by omega) (by omega)
      have hC2 := implCrash_is m t (implValid_is n (D := D) (P := P) (by omega) (by omega)) (by omega) (by omega)
      obtain ⟨y, ok, hy⟩ : ∃ y ok, (if validB D P n = true ∧ 0 ≤ m ∧ m ≤ (P.length : Int) then (bs (flipB (D ++ P.take m.toNat) (t && decide (0 < m))), true) else (bs [], false)) = (y, ok) := ⟨_, _, rfl⟩
      rw [hy] at hC1 hC2
      have hJ := crashes_j0 (by omega) (by omega) hy
      have hR1 := specRecover_is (l := l) (by omega)
      have hR2 := implRecover_is (l := l) (by omega)
      obtain ⟨r1, r2, r3, r4, r5, hr⟩ : ∃ r1 r2 r3 r4 r5, rcvR l = (r1, r2, r3, r4, r5) := ⟨_, _, _, _, _, rfl⟩
      rw [hr] at hR1 hR2
      refine t1.bind (hC2.bind (hC1.bind (Ter.bind (Ter.const v1) (t2.bind (hR2.bind (hR1.bind ?_))))))
      refine Ter.ifp rfl (Ter.ifn (by simp) (Ter.ifn (by simp) (Ter.ifp rfl ?_)))
      simp only [bne_self_eq_false]
      exact hJ
  obtain ⟨K, h⟩ := key
  exact ⟨K, h K (Nat.le_refl _)⟩
end Go.Proofs.YtaceoijcjkbgfaaDoor.P
namespace Go.Proofs.YtaceoijcjkbgfaaDoor.fnCrashes
open Go.ChangeShapes Go.WideShapes Go.ChangeAt Go.RowKit
open Go.ChangeMaps (open_string shut_string)
open Go.Proofs.YtaceoijcjkbgfaaDoor.P Go.Proofs.YtaceoijcjkbgfaaDoor.laidRow Go.Proofs.YtaceoijcjkbgfaaDoorW.PrintWords Go.Proofs.YtaceoijcjkbgfaaDoorW.PrintLast Go.Proofs.YtaceoijcjkbgfaaDoorW.PrintMore
set_option linter.unusedVariables false

theorem call (A0 : Option Addr) (c0 : Nat) (l0 : List Int) (w : World) (h_0 : Kd.C (Kd.int .u8) w A0 l0.length l0) (h_1 : l0.length ≤ c0) (ht : TabOK w) (W_0 : (l0.length ≤ maxLen ∧ ∀ z ∈ l0, (Lit.int .u8 z).wf = true)) :
    Calls Tryd.prog 5 #[.slice A0 l0.length c0] w fun e w' => e = .returned (.bool true) ∧ Below w.heap.size w w' := by
  obtain ⟨k, hk⟩ := P.FnCrashes.pure l0 W_0
  exact P.laws_FnCrashes.calls k A0 c0 l0 true w h_0 h_1 ht hk rfl

set_option maxRecDepth 100000 in
theorem contract (H : Type) (enc : TypeId × Value → H) (W : World) (base : Nat) (args : Array Value) (ds gs : List (DataW H)) (before : List MemPlace)
    (hval : ∀ (j : Nat) t v, Tryd.f5.params[j]? = some t → args[j]? = some v → Value.okWide Tryd.prog W .any base t v)
    (hW : DataW.Whole enc Tryd.prog Tryd.f5.params.toList Rows.fnCrashesSpec.vars false W args.toList ds gs before) (hL : laidMetH Tryd.prog Rows.fnCrashesRow.laid W) (hsh : W.ShapedOpen Tryd.prog) :
    Calls Tryd.prog 5 args W fun e W' => ∃ v, e = .returned v ∧ Rows.fnCrashesSpec.post enc Tryd.prog Tryd.f5 false true false false W args v W' := by
  have hW' := hW
  obtain ⟨p, q, hA0, hV, rfl, hfz, hnd⟩ := hW
  have hA : DataW.TrodAll enc Tryd.prog W 0 (fun _ => true) true Tryd.f5.params.toList args.toList ds p := hA0
  rw [Tryd.params5] at hA hval
  obtain ⟨v0, vs0, d0, ds0, p0, q0, hargs, rfl, rfl, h0, r0⟩ := trodAll_cons hA
  obtain ⟨rfl, rfl, rfl⟩ := trodAll_nil r0
  obtain rfl : args = #[v0] := by cases args; simp_all
  obtain ⟨rfl, rfl⟩ := trodVars_none hV
  obtain ⟨A0, len0, c0, rfl⟩ := okWide_slice Tryd.underlying44 (hval 0 44 v0 rfl rfl)
  have k0 := h0
  have lt0 : ∀ x ∈ p0, x.block < W.heap.size := by obtain ⟨m, hm⟩ := k0; exact DataW.trod_lt m _ _ _ hm
  obtain ⟨l0, e0, HC0, HR0, W0⟩ : ∃ l : List Int, len0 = l.length ∧ l.length ≤ c0 ∧ Kd.C (Kd.int .u8) W A0 l.length l ∧ (l.length ≤ maxLen ∧ ∀ z ∈ l, (Lit.int .u8 z).wf = true) := by
    obtain ⟨fuel, hf⟩ := h0
    obtain ⟨l, ⟨A_, c_, e_, hc_, hr_⟩, w_⟩ := (P.opens_slice (P := Tryd.prog) Tryd.underlying44 (P.opens_int (P := Tryd.prog) Tryd.underlying5) (by kernel_rfl)) hf rfl
    obtain ⟨rfl, rfl, rfl⟩ := Value.slice.inj (List.cons.inj e_).1
    exact ⟨l, rfl, hc_, hr_, w_⟩
  subst e0
  clear hA0 hval
  refine (call A0 c0 l0 W HR0 HC0 (tabOK hL hsh) W0).mono fun e W' ⟨he, bel⟩ => ?_
  subst he
  exact ⟨_, rfl, _, _, _, [], _, [], hW', trodAll_mk1 (shut_bool Tryd.underlying4 _), (trodAll_cons_mk (Below.trod laidOut (by kernel_rfl) (of_decide_eq_true (by kernel_rfl)) k0 bel lt0) trodAll_mk0), rfl, bel.frame _, fun h => by cases h⟩

set_option maxRecDepth 100000 in
theorem laid_met (os : Os) : laidMet Tryd.prog Rows.fnCrashesRow.laid ((laidWorld os).forCall (fun _ _ => 0) ⟨#[], #[.slice none 0 0], []⟩).memory :=
  laidMet_of_run' 8 (by kernel_rfl) (by kernel_rfl)

set_option maxRecDepth 100000 in
theorem reads (os : Os) {H : Type} (enc : TypeId × Value → H) : ∃ places, DataW.whole enc Tryd.prog ((laidWorld os).forCall (fun _ _ => 0) ⟨#[], #[.slice none 0 0], []⟩).memory Tryd.f5.params.toList Rows.fnCrashesSpec.vars false (#[.slice none 0 0] : Array Value).toList 8 = some ([.nil], [], places) :=
  ⟨[], by kernel_rfl⟩

set_option maxRecDepth 100000 in
set_option maxHeartbeats 2000000 in
theorem lifted (os : Os) (started : os.Started) (H : Type) (enc : TypeId × Value → H) (F : Stop.Interp) :
    ReturnsInHanded {} Tryd.checked os 5 .any ((OpenSpec.ofChange Rows.fnCrashesSpec).preRow enc Tryd.prog Tryd.f5 Rows.fnCrashesRow.domain false Rows.fnCrashesRow.laid) (((OpenSpec.ofChange Rows.fnCrashesSpec).at F).post enc Tryd.prog Tryd.f5 false true false false) := by
  obtain ⟨places, hx⟩ := reads os enc
  refine returnsInHanded_of_row (C := Tryd.checked) (s := OpenSpec.ofChange Rows.fnCrashesSpec) own started (by kernel_rfl) Tryd.func5
    (witness_row_at (enc := enc) (C := Tryd.checked) false (laidWorld os) #[.slice none 0 0] rfl (by kernel_rfl) (by kernel_rfl) (by kernel_rfl)
      (OpenSpec.preRow_of_cond 8 hx (by kernel_rfl) (fun k hk => by cases hk) (by kernel_rfl) (laid_met os))) ?_
  intro W base args ds gs before hval hW _ _ _ hL hsh _
  exact contract H enc W base args ds gs before hval hW hL hsh

set_option maxRecDepth 100000 in
theorem cl1 : Tryd.pinned.checked.prog.funcNamed Rows.fnCrashesRow.func = some 5 := by kernel_rfl

theorem cl2 : joinedFacts Tryd.pinned.checked.prog 5 Tryd.f5 Rows.fnCrashesSpec Rows.fnCrashesRow = true := by kernel_rfl

theorem cl3 : Tryd.f5.isInstance Tryd.pinned.checked.prog Rows.fnCrashesRow.origin Rows.fnCrashesRow.targs := of_decide_eq_true (by kernel_rfl)

theorem cl4 : Tryd.f5.isWrapper Tryd.pinned.checked.prog Rows.fnCrashesRow.wrapper Rows.fnCrashesRow.mainSum := (by unfold Func.isWrapper; first | (rw [if_pos (by decide +kernel)]; kernel_rfl) | (rw [if_neg (by decide +kernel)]; exact ⟨rfl, rfl⟩))

theorem said : Rows.FnCrashesSaid :=
  OpenClaim.holds_of_cond 5 Tryd.f5 rfl rfl rfl rfl rfl rfl rfl ⟨rfl, rfl, rfl, rfl, rfl⟩ rfl rfl rfl rfl rfl cl1 Tryd.func5 cl2 cl3 cl4
    (fun os started H enc _ F => by rw [OpenClaim.pre_eq_preRow]; exact lifted os started H enc F)

theorem plain (f : FuncId) (fn : Func) (hf : Tryd.pinned.checked.prog.funcNamed Rows.fnCrashesRow.func = some f) (hfn : Tryd.pinned.checked.prog.funcs[f]? = some fn) :
    false = Tryd.pinned.checked.prog.looks [] ∧ ∀ (j : Nat) t, fn.params[j]? = some t → Tryd.pinned.checked.prog.wantsStandIn t = false := by
  obtain rfl : f = 5 := Option.some.inj (cl1.symm.trans hf) |>.symm
  obtain rfl : fn = Tryd.f5 := (Option.some.inj (Tryd.func5.symm.trans hfn)).symm
  refine ⟨by kernel_rfl, fun j t ht => ?_⟩
  rw [Tryd.params5] at ht
  have hm := Array.mem_of_getElem? ht
  obtain rfl : t = 44 := by simpa using hm
  exact (show Tryd.prog.wantsStandIn 44 = false by kernel_rfl)

theorem card : Rows.FnCrashesCardSaid :=
  Claim7.holds_tied_plain_at .later [] _ _ _ _ said (fun _ h => by cases h) (by kernel_rfl) (fun _ h => by cases h) fnCrashes_row_tie rfl ⟨rfl, rfl⟩ (by kernel_rfl) rfl plain (by kernel_rfl)
#print axioms card
end Go.Proofs.YtaceoijcjkbgfaaDoor.fnCrashes
namespace Go.Proofs.YtaceoijcjkbgfaaDoor

/-- The card, under a short name, for the claim. -/
theorem fnCrashes_holds : Rows.FnCrashesCardSaid := fnCrashes.card
end Go.Proofs.YtaceoijcjkbgfaaDoor
