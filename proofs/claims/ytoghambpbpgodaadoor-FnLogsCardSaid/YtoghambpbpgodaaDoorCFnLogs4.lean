/- Part 4 of the proof of FnLogs: contracts of functions that the law reaches. Conditions: none. -/
import Derived.Test.YtoghambpbpgodaaDoorCFnLogs3
import Derived.Lib.IndexMore
import Derived.Lib.ItoaNum
import Derived.Lib.IndexAny
namespace Go.Proofs.YtoghambpbpgodaaDoor.P
open Go.RowKit Go.Proofs.YtoghambpbpgodaaDoorW.PrintWords Go.Proofs.YtoghambpbpgodaaDoorW.PrintLast Go.Proofs.YtoghambpbpgodaaDoorW.PrintMore
attribute [local go_sem] max2_int min2_int max_two min_two max_three min_three max_four min_four   -- for this text's walks alone
set_option linter.unusedVariables false
set_option linter.unusedSimpArgs false
attribute [local go_sem high] eqA25 eqA33

mutual
def laws_FnLogs.j0 : Nat → Int → Bool → ByteArray → ByteArray → Int → ByteArray → ByteArray → ByteArray → ByteArray → Int → Option (Bool)
 | 0, _, _, _, _, _, _, _, _, _, _ => none
 | k + 1, x14, x103, x479000, x479001, x479002, x480000, x480001, x485000, x485001, x485002 => if x103 = true then (some false) else ((impl_SyncLog.f k x479000 x479001 x479002).bind fun bt494 => ((spec_SyncLog.f k x479000 x479001 x479002).bind fun bt499 => ((impl_LogRecords.f k x479000 x479001 x479002).bind fun bt504 => ((spec_LogRecords.f k x479000 x479001 x479002).bind fun bt508 => (if (!(bt494.1.toList == bt499.1.toList) || (!(bt494.2.1.toList == bt499.2.1.toList) || (!(bt494.2.2.1 == bt499.2.2.1)))) = true then (laws_FnLogs.j1 k x14 bt494.2.2.2 bt504.1 true x479000 x479001 x479002 x480000 x480001 x485000 x485001 x485002 bt494.1 bt494.2.1 bt494.2.2.1) else (if (bt494.2.2.2 != bt499.2.2.2) = true then (laws_FnLogs.j1 k x14 bt494.2.2.2 bt504.1 true x479000 x479001 x479002 x480000 x480001 x485000 x485001 x485002 bt494.1 bt494.2.1 bt494.2.2.1) else (if (bt504.2 != bt508.2) = true then (laws_FnLogs.j1 k x14 bt494.2.2.2 bt504.1 true x479000 x479001 x479002 x480000 x480001 x485000 x485001 x485002 bt494.1 bt494.2.1 bt494.2.2.1) else ((laws_vRecords.f k bt504.1 bt508.1).bind fun t512 => (laws_FnLogs.j1 k x14 bt494.2.2.2 bt504.1 (!t512) x479000 x479001 x479002 x480000 x480001 x485000 x485001 x485002 bt494.1 bt494.2.1 bt494.2.2.1)))))))))
def laws_FnLogs.j1 : Nat → Int → Bool → List (S25) → Bool → ByteArray → ByteArray → Int → ByteArray → ByteArray → ByteArray → ByteArray → Int → ByteArray → ByteArray → Int → Option (Bool)
 | 0, _, _, _, _, _, _, _, _, _, _, _, _, _, _, _ => none
 | k + 1, x14, x18, x21, x142, x479000, x479001, x479002, x480000, x480001, x485000, x485001, x485002, x499000, x499001, x499002 => if x142 = true then (some false) else ((impl_LogRecords.f k x499000 x499001 x499002).bind fun bt513 => (if x18 = true then ((laws_vRecords.f k bt513.1 x21).bind fun t517 => (laws_FnLogs.j2 k x14 x21 (!t517) x479000 x479001 x479002 x480000 x480001 x485000 x485001 x485002)) else (laws_FnLogs.j2 k x14 x21 false x479000 x479001 x479002 x480000 x480001 x485000 x485001 x485002)))
def laws_FnLogs.j2 : Nat → Int → List (S25) → Bool → ByteArray → ByteArray → Int → ByteArray → ByteArray → ByteArray → ByteArray → Int → Option (Bool)
 | 0, _, _, _, _, _, _, _, _, _, _, _ => none
 | k + 1, x14, x21, x154, x479000, x479001, x479002, x480000, x480001, x485000, x485001, x485002 => if x154 = true then (some false) else (if x14 = 0 then ((impl_LogRecords.f k x485000 x485001 x485002).bind fun bt518 => ((impl_IsValidLog.f k x485000 x485001 x485002).bind fun t522 => (if t522 = true then (if (bt518.1.length : Int) = (wrap64 ((x21.length : Int) + 1)) then (if 0 ≤ (x21.length : Int) then (if (x21.length : Int) ≤ (bt518.1.length : Int) then ((laws_vRecords.f k (bt518.1.take ((x21.length : Int) : Int).toNat) x21).bind fun t527 => (if t527 = true then (if (x21.length : Int) < (bt518.1.length : Int) then (some ((((rd_T25 bt518.1 (x21.length : Int)).f0).toList) == x480000.toList && ((((rd_T25 bt518.1 (x21.length : Int)).f1).toList) == x480001.toList))) else (none)) else (some false))) else (none)) else (none)) else (some false)) else (some false)))) else (some (x485000.toList == x479000.toList && (x485001.toList == x479001.toList && (x485002 == x479002)))))
end

def laws_FnLogs.f (k : Nat) (l0 : List Int) : Option (Bool) := (laws_vBig.f l0).bind fun t448 => (if t448 = true then (some true) else ((spec_DrawIsValidRecord.f l0).bind fun bt449 => ((laws_vCut.f l0 1).bind fun t452 => ((spec_DrawEncodeRecord.f t452).bind fun bt455 => ((impl_EncodeRecord.f k bt455.1 bt455.2.1 bt455.2.2).bind fun bt459 => ((spec_EncodeRecord.f k bt455.1 bt455.2.1 bt455.2.2).bind fun bt461 => ((laws_vCut.f l0 2).bind fun t463 => ((spec_DrawIsValidLog.f k t463).bind fun bt466 => ((laws_vCut.f l0 3).bind fun t470 => ((spec_DrawAppendRecord.f k t470).bind fun bt473 => ((impl_AppendRecord.f k bt473.1 bt473.2.1 bt473.2.2.1 bt473.2.2.2.1 bt473.2.2.2.2).bind fun bt480 => ((spec_AppendRecord.f k bt473.1 bt473.2.1 bt473.2.2.1 bt473.2.2.2.1 bt473.2.2.2.2).bind fun bt485 => ((impl_IsValidRecord.f k bt449.1 bt449.2).bind fun t490 => ((spec_IsValidRecord.f k bt449.1 bt449.2).bind fun t491 => (if (t490 != t491) = true then (laws_FnLogs.j0 k bt480.2.2.2 true bt473.1 bt473.2.1 bt473.2.2.1 bt473.2.2.2.1 bt473.2.2.2.2 bt480.1 bt480.2.1 bt480.2.2.1) else (if bt459.1.toList = bt461.1.toList then (if (bt459.2 != bt461.2) = true then (laws_FnLogs.j0 k bt480.2.2.2 true bt473.1 bt473.2.1 bt473.2.2.1 bt473.2.2.2.1 bt473.2.2.2.2 bt480.1 bt480.2.1 bt480.2.2.1) else ((impl_IsValidLog.f k bt466.1 bt466.2.1 bt466.2.2).bind fun t492 => ((spec_IsValidLog.f k bt466.1 bt466.2.1 bt466.2.2).bind fun t493 => (if (t492 != t493) = true then (laws_FnLogs.j0 k bt480.2.2.2 true bt473.1 bt473.2.1 bt473.2.2.1 bt473.2.2.2.1 bt473.2.2.2.2 bt480.1 bt480.2.1 bt480.2.2.1) else (if (!(bt480.1.toList == bt485.1.toList) || (!(bt480.2.1.toList == bt485.2.1.toList) || (!(bt480.2.2.1 == bt485.2.2.1)))) = true then (laws_FnLogs.j0 k bt480.2.2.2 true bt473.1 bt473.2.1 bt473.2.2.1 bt473.2.2.2.1 bt473.2.2.2.2 bt480.1 bt480.2.1 bt480.2.2.1) else (laws_FnLogs.j0 k bt480.2.2.2 (bt480.2.2.2 != bt485.2.2.2) bt473.1 bt473.2.1 bt473.2.2.1 bt473.2.2.2.1 bt473.2.2.2.2 bt480.1 bt480.2.1 bt480.2.2.1)))))) else (laws_FnLogs.j0 k bt480.2.2.2 true bt473.1 bt473.2.1 bt473.2.2.1 bt473.2.2.2.1 bt473.2.2.2.2 bt480.1 bt480.2.1 bt480.2.2.1)))))))))))))))))

def laws_FnLogs.T11 : Bool × List (List Nat × List Nat) := (true, [([], []), ([0], [0]), ([], []), ([2, 1], [2]), ([1, 3], [1, 3]), ([4, 3], [4]), ([5], [5]), ([5], [5]), ([6, 7, 5], [5, 6, 7]), ([5, 8], [5, 8]), ([9, 5], [9]), ([10], [10]), ([10], [10]), ([11, 12, 10], [10, 11, 12]), ([10, 13], [10, 13]), ([14, 10], [14]), ([15], [15]), ([16, 15, 15], [15, 16]), ([15], [15]), ([18, 17, 15], [15, 18]), ([17, 19, 15], [15, 17, 19]), ([15, 20], [15, 20]), ([21, 19], [21]), ([22], [22]), ([22], [22]), ([23, 24, 22], [22, 23, 24]), ([22, 25], [22, 25]), ([26, 22], [26]), ([27], [27]), ([27], [27]), ([28, 29, 27], [27, 28, 29]), ([27, 30], [27, 30])])

def laws_FnLogs.B11 : List Nat := [0, 1, 0, 7, 15, 31, 63, 63, 255, 511, 1023, 2047, 2047, 8191, 16383, 32767, 65535, 131071, 65535, 524287, 1048575, 2097151, 4194303, 8388607, 8388607, 33554431, 67108863, 134217727, 268435455, 268435455, 1073741823, 2147483647]

theorem laws_FnLogs.tab11 : rtab .any (opsOf Tryd.f3 11) = laws_FnLogs.T11 := by kernel_rfl

theorem laws_FnLogs.bits11 : waitsOk laws_FnLogs.T11.2 laws_FnLogs.B11 = true := by kernel_rfl

def laws_FnLogs.T25 : Bool × List (List Nat × List Nat) := (true, [([], []), ([0], [0]), ([1, 1], [1]), ([2], [2]), ([3, 2], [2, 3]), ([2], [2]), ([5, 2], [2, 5]), ([6, 2], [2, 6]), ([4, 7, 2], [2, 4, 7]), ([2, 8], [2, 8]), ([9, 2], [9]), ([10], [10]), ([10], [10]), ([12, 10], [10, 12]), ([11, 13, 10], [10, 11, 13]), ([10], [10]), ([14, 15, 10, 10], [10, 14, 15]), ([10, 16], [10, 16]), ([17, 16], [17]), ([18], [18]), ([18], [18]), ([20, 18], [18, 20]), ([19, 21, 18], [18, 19, 21]), ([22, 18], [18, 22]), ([18], [18]), ([23, 24, 18], [18, 23, 24]), ([18, 25], [18, 25]), ([26, 18, 0, 1, 2, 3, 4, 5, 6, 7, 8, 9, 10, 11, 12, 13, 14, 15, 16, 17, 18, 19, 20, 21, 22, 23, 24, 25, 26], [26])])

def laws_FnLogs.B25 : List Nat := [0, 1, 3, 7, 15, 7, 39, 103, 255, 511, 1023, 2047, 2047, 6143, 16383, 2047, 65535, 131071, 262143, 524287, 524287, 1572863, 4194303, 8388607, 524287, 33554431, 67108863, 134217727]

theorem laws_FnLogs.tab25 : rtab .any (opsOf Tryd.f3 25) = laws_FnLogs.T25 := by kernel_rfl

theorem laws_FnLogs.bits25 : waitsOk laws_FnLogs.T25.2 laws_FnLogs.B25 = true := by kernel_rfl

theorem bset_ {g i : Nat} {w w1 : World} {x : Value} (h : Below w.heap.size w w1) (hg : Aside0 (w.heap.size ≤ g)) : Below w.heap.size w (w1.setCell ⟨g, i, none⟩ x) := below_set h hg.out

theorem laws_FnLogs.j0_no (k : Nat) (x14 : Int) (x479000 : ByteArray) (x479001 : ByteArray) (x479002 : Int) (x480000 : ByteArray) (x480001 : ByteArray) (x485000 : ByteArray) (x485001 : ByteArray) (x485002 : Int) : laws_FnLogs.j0 k x14 true x479000 x479001 x479002 x480000 x480001 x485000 x485001 x485002 ≠ some true := by
 cases k <;> simp [laws_FnLogs.j0]

theorem laws_FnLogs.j1_no (k : Nat) (x14 : Int) (x18 : Bool) (x21 : List (S25)) (x479000 : ByteArray) (x479001 : ByteArray) (x479002 : Int) (x480000 : ByteArray) (x480001 : ByteArray) (x485000 : ByteArray) (x485001 : ByteArray) (x485002 : Int) (x499000 : ByteArray) (x499001 : ByteArray) (x499002 : Int) : laws_FnLogs.j1 k x14 x18 x21 true x479000 x479001 x479002 x480000 x480001 x485000 x485001 x485002 x499000 x499001 x499002 ≠ some true := by
 cases k <;> simp [laws_FnLogs.j1]

set_option maxHeartbeats 8000000 in
set_option maxRecDepth 100000 in
theorem laws_FnLogs.calls (k : Nat) (A0 : Option Addr) (c0 : Nat) (l0 : List Int) (r : Bool) (w : World) (hr0 : Kd.C (Kd.int .u8) w A0 l0.length l0) (hc0 : l0.length ≤ c0) (ht : TabOK w) (h : laws_FnLogs.f k l0 = some r) (hyes : r = true) :
  Calls Tryd.prog 3 #[.slice A0 l0.length c0] w fun e w' => e = .returned (.bool r) ∧ Below w.heap.size w w' := by
 have hu25 := Tryd.underlying25
 have hu33 := Tryd.underlying33
 have HT := Aside0.mk ht
 clear ht
 have HR0 := Aside0.mk hr0
 have HC0 := Aside0.mk hc0
 clear hr0 hc0
 have HB := Aside0.mk (Below.refl w.heap.size w)
 have H : ((laws_vBig.f l0).bind fun t448 => (if t448 = true then (some true) else ((spec_DrawIsValidRecord.f l0).bind fun bt449 => ((laws_vCut.f l0 1).bind fun t452 => ((spec_DrawEncodeRecord.f t452).bind fun bt455 => ((impl_EncodeRecord.f k bt455.1 bt455.2.1 bt455.2.2).bind fun bt459 => ((spec_EncodeRecord.f k bt455.1 bt455.2.1 bt455.2.2).bind fun bt461 => ((laws_vCut.f l0 2).bind fun t463 => ((spec_DrawIsValidLog.f k t463).bind fun bt466 => ((laws_vCut.f l0 3).bind fun t470 => ((spec_DrawAppendRecord.f k t470).bind fun bt473 => ((impl_AppendRecord.f k bt473.1 bt473.2.1 bt473.2.2.1 bt473.2.2.2.1 bt473.2.2.2.2).bind fun bt480 => ((spec_AppendRecord.f k bt473.1 bt473.2.1 bt473.2.2.1 bt473.2.2.2.1 bt473.2.2.2.2).bind fun bt485 => ((impl_IsValidRecord.f k bt449.1 bt449.2).bind fun t490 => ((spec_IsValidRecord.f k bt449.1 bt449.2).bind fun t491 => (if (t490 != t491) = true then (laws_FnLogs.j0 k bt480.2.2.2 true bt473.1 bt473.2.1 bt473.2.2.1 bt473.2.2.2.1 bt473.2.2.2.2 bt480.1 bt480.2.1 bt480.2.2.1) else (if bt459.1.toList = bt461.1.toList then (if (bt459.2 != bt461.2) = true then (laws_FnLogs.j0 k bt480.2.2.2 true bt473.1 bt473.2.1 bt473.2.2.1 bt473.2.2.2.1 bt473.2.2.2.2 bt480.1 bt480.2.1 bt480.2.2.1) else ((impl_IsValidLog.f k bt466.1 bt466.2.1 bt466.2.2).bind fun t492 => ((spec_IsValidLog.f k bt466.1 bt466.2.1 bt466.2.2).bind fun t493 => (if (t492 != t493) = true then (laws_FnLogs.j0 k bt480.2.2.2 true bt473.1 bt473.2.1 bt473.2.2.1 bt473.2.2.2.1 bt473.2.2.2.2 bt480.1 bt480.2.1 bt480.2.2.1) else (if (!(bt480.1.toList == bt485.1.toList) || (!(bt480.2.1.toList == bt485.2.1.toList) || (!(bt480.2.2.1 == bt485.2.2.1)))) = true then (laws_FnLogs.j0 k bt480.2.2.2 true bt473.1 bt473.2.1 bt473.2.2.1 bt473.2.2.2.1 bt473.2.2.2.2 bt480.1 bt480.2.1 bt480.2.2.1) else (laws_FnLogs.j0 k bt480.2.2.2 (bt480.2.2.2 != bt485.2.2.2) bt473.1 bt473.2.1 bt473.2.2.1 bt473.2.2.2.1 bt473.2.2.2.2 bt480.1 bt480.2.1 bt480.2.2.1)))))) else (laws_FnLogs.j0 k bt480.2.2.2 true bt473.1 bt473.2.1 bt473.2.2.1 bt473.2.2.2.1 bt473.2.2.2.2 bt480.1 bt480.2.1 bt480.2.2.1)))))))))))))))))) = some r := h
 clear h
 replace H := Option.bind_eq_some_iff.mp H
 obtain ⟨t448, A20, H⟩ := H
 try dsimp only at H
 have A2 := Aside0.mk A20
 clear A20
 by_cases c3 : t448 = true
 ·subst c3
  rw [if_pos rfl] at H
  obtain rfl := Option.some.inj H
  go_enter Tryd.func3, Tryd.ntmps3
  go_wp2_with (first | ((with_reducible refine gate_callee (f := 6) rfl ?_); refine goesL_ (some 30) rfl rfl Tryd.func6 (by kernel_rfl) rfl #[.slice A0 l0.length c0] rfl (by (try simp only [List.map_toArray, List.map_cons, List.map_nil]); first | done | rfl | (simp only [List.length_drop, List.length_take]; rfl)) ?_; (with_reducible refine (laws_vBig.calls _ _ l0 true _ ?side1 ?side2 A2.out).mono ?_); (case side1 => repeat (first | exact HR0.out | (with_reducible refine Kd.C_alloc ?_ _) | (with_reducible refine Kd.C_drewN ?_ _) | (with_reducible refine Kd.C_drew ?_))); (case side2 => exact HC0.out); rintro e w' ⟨rfl, ⟨nd, rfl⟩⟩; refine ⟨_, rfl, ?_⟩))
  go_ret
  exact ⟨by first | rfl | (simp [errW_none, errW_some] <;> rfl) | (simp [*, errW_none, errW_some] <;> rfl), by repeat (first | (with_reducible first | exact HB.out | apply ba_ | apply bn_ | apply bd_) | exact HB.out)⟩
 ·replace c3 := Bool.eq_false_iff.mpr c3
  subst c3
  rw [if_neg (show ¬ (false = true) by decide)] at H
  replace H := Option.bind_eq_some_iff.mp H
  obtain ⟨⟨t449, t450⟩, A40, H⟩ := H
  try dsimp only at H
  have A4 := Aside0.mk A40
  clear A40
  replace H := Option.bind_eq_some_iff.mp H
  obtain ⟨t452, A50, H⟩ := H
  try dsimp only at H
  have A5 := Aside0.mk A50
  clear A50
  replace H := Option.bind_eq_some_iff.mp H
  obtain ⟨⟨t455, t456, t457⟩, A60, H⟩ := H
  try dsimp only at H
  have A6 := Aside0.mk A60
  clear A60
  replace H := Option.bind_eq_some_iff.mp H
  obtain ⟨⟨t459, t460⟩, A70, H⟩ := H
  try dsimp only at H
  have A7 := Aside0.mk A70
  clear A70
  replace H := Option.bind_eq_some_iff.mp H
  obtain ⟨⟨t461, t462⟩, A80, H⟩ := H
  try dsimp only at H
  have A8 := Aside0.mk A80
  clear A80
  replace H := Option.bind_eq_some_iff.mp H
  obtain ⟨t463, A90, H⟩ := H
  try dsimp only at H
  have A9 := Aside0.mk A90
  clear A90
  replace H := Option.bind_eq_some_iff.mp H
  obtain ⟨⟨t466, t467, t468⟩, A100, H⟩ := H
  try dsimp only at H
  have A10 := Aside0.mk A100
  clear A100
  replace H := Option.bind_eq_some_iff.mp H
  obtain ⟨t470, A110, H⟩ := H
  try dsimp only at H
  have A11 := Aside0.mk A110
  clear A110
  replace H := Option.bind_eq_some_iff.mp H
  obtain ⟨⟨t473, t474, t475, t476, t477⟩, A120, H⟩ := H
  try dsimp only at H
  have A12 := Aside0.mk A120
  clear A120
  replace H := Option.bind_eq_some_iff.mp H
  obtain ⟨⟨t480, t481, t482, t483⟩, A130, H⟩ := H
  try dsimp only at H
  have A13 := Aside0.mk A130
  clear A130
  replace H := Option.bind_eq_some_iff.mp H
  obtain ⟨⟨t485, t486, t487, t488⟩, A140, H⟩ := H
  try dsimp only at H
  have A14 := Aside0.mk A140
  clear A140
  have HC15 := Aside0.mk H
  clear H
  go_enter Tryd.func3, Tryd.ntmps3
  go_upto_region 11 with (first | ((with_reducible refine gate_callee (f := 6) rfl ?_); refine goesL_ (some 30) rfl rfl Tryd.func6 (by kernel_rfl) rfl #[.slice A0 l0.length c0] rfl (by (try simp only [List.map_toArray, List.map_cons, List.map_nil]); first | done | rfl | (simp only [List.length_drop, List.length_take]; rfl)) ?_; (with_reducible refine (laws_vBig.calls _ _ l0 false _ ?side1 ?side2 A2.out).mono ?_); (case side1 => repeat (first | exact HR0.out | (with_reducible refine Kd.C_alloc ?_ _) | (with_reducible refine Kd.C_drewN ?_ _) | (with_reducible refine Kd.C_drew ?_))); (case side2 => exact HC0.out); rintro e w' ⟨rfl, ⟨nd, rfl⟩⟩; refine ⟨_, rfl, ?_⟩) | ((with_reducible refine gate_callee (f := 7) rfl ?_); refine goesL_ (some 32) rfl rfl Tryd.func7 (by kernel_rfl) rfl #[.slice A0 l0.length c0] rfl (by (try simp only [List.map_toArray, List.map_cons, List.map_nil]); first | done | rfl | (simp only [List.length_drop, List.length_take]; rfl)) ?_; (with_reducible refine (spec_DrawIsValidRecord.calls _ _ l0 t449 t450 _ ?side1 ?side2 A4.out).mono ?_); (case side1 => repeat (first | exact HR0.out | (with_reducible refine Kd.C_alloc ?_ _) | (with_reducible refine Kd.C_drewN ?_ _) | (with_reducible refine Kd.C_drew ?_))); (case side2 => exact HC0.out); rintro e w16 ⟨rfl, hb⟩; refine ⟨_, rfl, ?_⟩; have n0_ := Aside0.mk (below_step (by repeat (first | (with_reducible first | exact HB.out | apply ba_ | apply bn_ | apply bd_) | exact HB.out)) hb); clear HB; have HB := n0_; clear n0_; (try clear hb); (try clear hb2); (try clear hk); (try clear hi)) | ((with_reducible refine gate_dst (N := 3) rfl ?_); (try (refine gate_guard (by rfl) ?_; dsimp only)); refine box_event ?hg (N := 3) ?hd (cs := #[.string (⟨#[]⟩ : ByteArray), .string (⟨#[]⟩ : ByteArray)]) (t := 25) ?hr ?_; (case hd => rfl); (case hg => rfl); (case hr => first | (go_simp; done) | (go_simp; rfl)); intro gb451 hg w17 hbox hb; have n0_ := Aside0.mk (below_step (by repeat (first | (with_reducible first | exact HB.out | apply ba_ | apply bn_ | apply bd_) | exact HB.out)) hb); have n1_ := Aside0.mk (hbox); have n2_ := Aside0.mk ((by rw [hg]; exact (below_size (by repeat (first | (with_reducible first | exact HB.out | apply ba_ | apply bn_ | apply bd_) | exact HB.out))) : w.heap.size ≤ gb451)); have n3_ := Aside0.mk ((by rw [hg]; exact (below_size (by repeat (first | (with_reducible first | exact HB.out | apply ba_ | apply bn_ | apply bd_) | exact HB.out))) : w.heap.size ≤ gb451)); clear HB; have HB := n0_; have BK451 := n1_; have GW451 := n2_; have GE451 := n3_; clear n0_ n1_ n2_ n3_; clear hb hbox hg; have hcz18_0 : w17.cell? ⟨gb451, 0, none⟩ = some (.string (⟨#[]⟩ : ByteArray)) := (blk_cell BK451.out 0).trans rfl; have hcz18_1 : w17.cell? ⟨gb451, 1, none⟩ = some (.string (⟨#[]⟩ : ByteArray)) := (blk_cell BK451.out 1).trans rfl; have hfz18_0 := blk_frozen BK451.out 0; have hfz18_1 := blk_frozen BK451.out 1) | ((with_reducible refine gate_callee (f := 9) rfl ?_); refine goesL_ (some 35) rfl rfl Tryd.func9 (by kernel_rfl) rfl #[.slice A0 l0.length c0, .int .i64 1] rfl (by (try simp only [List.map_toArray, List.map_cons, List.map_nil]); first | done | rfl | (simp only [List.length_drop, List.length_take]; rfl)) ?_; (with_reducible refine (laws_vCut.calls _ _ l0 1 t452 _ ?side1 ?side2 A5.out).mono ?_); (case side1 => exact Kd.C_below HR0.out (by repeat (first | (with_reducible first | exact HB.out | apply ba_ | apply bn_ | apply bd_ | refine bset_ ?_ (by assumption)) | exact HB.out))); (case side2 => exact HC0.out); rintro e w19 ⟨v453, rfl, ho0, hb⟩; refine ⟨_, rfl, ?_⟩; have n0_ := Aside0.mk (Kd.R_lower ho0 (below_size (by repeat (first | (with_reducible first | exact HB.out | apply ba_ | apply bn_ | apply bd_ | refine bset_ ?_ (by assumption)) | exact HB.out)))); have n1_ := Aside0.mk (blk_below (g := gb451) (o := .cells #[.string t449, .string t450] 25 (0, 0)) (by (with_reducible repeat first | apply bN_ | apply bD_ | apply bA_); refine blk_put (cs := #[.string t449, .string (⟨#[]⟩ : ByteArray)]) ?_ 1 _ rfl; (with_reducible repeat first | apply bN_ | apply bD_ | apply bA_); refine blk_put (cs := #[.string (⟨#[]⟩ : ByteArray), .string (⟨#[]⟩ : ByteArray)]) ?_ 0 _ rfl; (with_reducible repeat first | apply bN_ | apply bD_ | apply bA_); exact BK451.out) hb); have n2_ := Aside0.mk (below_step (by repeat (first | (with_reducible first | exact HB.out | apply ba_ | apply bn_ | apply bd_ | refine bset_ ?_ (by assumption)) | exact HB.out)) hb); clear BK451; clear HB; have HO454 := n0_; have BK451 := n1_; have HB := n2_; clear n0_ n1_ n2_; (try clear hb); (try clear hb2); (try clear hk); (try clear hi); (try clear ho0); obtain ⟨Ao20, co20, eo20⟩ := Kd.R_slice HO454.out; subst eo20) | ((with_reducible refine gate_callee (f := 8) rfl ?_); refine goesL_ (some 36) rfl rfl Tryd.func8 (by kernel_rfl) rfl #[.slice Ao20 t452.length co20] rfl (by (try simp only [List.map_toArray, List.map_cons, List.map_nil]); first | done | rfl | (simp only [List.length_drop, List.length_take]; rfl)) ?_; (with_reducible refine (spec_DrawEncodeRecord.calls _ _ t452 t455 t456 t457 _ ?side1 ?side2 A6.out).mono ?_); (case side1 => repeat (first | exact (Kd.R_reads' HO454.out).2.2 | (with_reducible refine Kd.C_alloc ?_ _) | (with_reducible refine Kd.C_drewN ?_ _) | (with_reducible refine Kd.C_drew ?_))); (case side2 => exact (Kd.R_reads' HO454.out).2.1); rintro e w21 ⟨rfl, hb⟩; refine ⟨_, rfl, ?_⟩; have n0_ := Aside0.mk (Kd.R_below (by (with_reducible repeat first | apply kA_ | apply kN_ | apply kD_); exact HO454.out) hb); have n1_ := Aside0.mk (blk_below (g := gb451) (o := .cells #[.string t449, .string t450] 25 (0, 0)) (by (with_reducible repeat first | apply bN_ | apply bD_ | apply bA_); exact BK451.out) hb); have n2_ := Aside0.mk (below_step (by repeat (first | (with_reducible first | exact HB.out | apply ba_ | apply bn_ | apply bd_ | refine bset_ ?_ (by assumption)) | exact HB.out)) hb); clear HO454; clear BK451; clear HB; have HO454 := n0_; have BK451 := n1_; have HB := n2_; clear n0_ n1_ n2_; (try clear hb); (try clear hb2); (try clear hk); (try clear hi)) | ((with_reducible refine gate_dst (N := 5) rfl ?_); (try (refine gate_guard (by rfl) ?_; dsimp only)); refine box_event ?hg (N := 5) ?hd (cs := #[.string (⟨#[]⟩ : ByteArray), .string (⟨#[]⟩ : ByteArray)]) (t := 25) ?hr ?_; (case hd => rfl); (case hg => rfl); (case hr => first | (go_simp; done) | (go_simp; rfl)); intro gb458 hg w22 hbox hb; have n0_ := Aside0.mk (Kd.R_below (by (with_reducible repeat first | apply kA_ | apply kN_ | apply kD_); exact HO454.out) hb); have n1_ := Aside0.mk (blk_below (g := gb451) (o := .cells #[.string t449, .string t450] 25 (0, 0)) (by (with_reducible repeat first | apply bN_ | apply bD_ | apply bA_); exact BK451.out) hb); have n2_ := Aside0.mk (below_step (by repeat (first | (with_reducible first | exact HB.out | apply ba_ | apply bn_ | apply bd_ | refine bset_ ?_ (by assumption)) | exact HB.out)) hb); have n3_ := Aside0.mk (hbox); have n4_ := Aside0.mk ((by rw [hg]; exact (below_size (by repeat (first | (with_reducible first | exact HB.out | apply ba_ | apply bn_ | apply bd_ | refine bset_ ?_ (by assumption)) | exact HB.out))) : w.heap.size ≤ gb458)); have n5_ := Aside0.mk ((by rw [hg]; exact (below_size (by repeat (first | (with_reducible first | exact HB.out | apply ba_ | apply bn_ | apply bd_ | refine bset_ ?_ (by assumption)) | exact HB.out))) : w.heap.size ≤ gb458)); have n6_ := Aside0.mk ((by rw [hg]; exact Nat.ne_of_lt (blk_lt (g := gb451) (o := .cells #[.string t449, .string t450] 25 (0, 0)) (by (with_reducible repeat first | apply bN_ | apply bD_ | apply bA_); exact BK451.out)) : gb451 ≠ gb458)); have n7_ := Aside0.mk ((by rw [hg]; exact Nat.ne_of_gt (blk_lt (g := gb451) (o := .cells #[.string t449, .string t450] 25 (0, 0)) (by (with_reducible repeat first | apply bN_ | apply bD_ | apply bA_); exact BK451.out)) : gb458 ≠ gb451)); clear HO454; clear BK451; clear HB; have HO454 := n0_; have BK451 := n1_; have HB := n2_; have BK458 := n3_; have GW458 := n4_; have GE458 := n5_; have NB451_458 := n6_; have NB458_451 := n7_; clear n0_ n1_ n2_ n3_ n4_ n5_ n6_ n7_; clear hb hbox hg; have hnb23 := NB458_451.out; have hnc23 := NB451_458.out; have hcz24_0 : w22.cell? ⟨gb458, 0, none⟩ = some (.string (⟨#[]⟩ : ByteArray)) := (blk_cell BK458.out 0).trans rfl; have hcz24_1 : w22.cell? ⟨gb458, 1, none⟩ = some (.string (⟨#[]⟩ : ByteArray)) := (blk_cell BK458.out 1).trans rfl; have hfz24_0 := blk_frozen BK458.out 0; have hfz24_1 := blk_frozen BK458.out 1) | ((with_reducible refine gate_callee (f := 10) rfl ?_); refine goesL_ (some 42) rfl rfl Tryd.func10 (by kernel_rfl) rfl #[.int .i64 t455, .agg #[.string t456, .string t457]] rfl (by (try simp only [List.map_toArray, List.map_cons, List.map_nil]); first | done | rfl | (simp only [List.length_drop, List.length_take]; rfl)) ?_; (with_reducible refine (impl_EncodeRecord.calls k t455 t456 t457 t459 t460 _ ?side1 A7.out).mono ?_); (case side1 => exact TabOK.below HT.out (by repeat (first | (with_reducible first | exact HB.out | apply ba_ | apply bn_ | apply bd_ | refine bset_ ?_ (by assumption)) | exact HB.out))); rintro e w25 ⟨rfl, hb⟩; refine ⟨_, rfl, ?_⟩; have n0_ := Aside0.mk (Kd.R_below (by (with_reducible repeat first | apply kA_ | apply kN_ | apply kD_); exact (Kd.R_mono (Kd.R_far (p := ⟨gb458, 1, none⟩) (Kd.R_far (p := ⟨gb458, 0, none⟩) (Kd.R_types HO454.out BK458.out (by decide)) (fun _ hk => hk.2) (.string t456)) (fun _ hk => hk.2) (.string t457)) (fun _ h_ => h_.1))) hb); have n1_ := Aside0.mk (blk_below (g := gb451) (o := .cells #[.string t449, .string t450] 25 (0, 0)) (by (with_reducible repeat first | apply bN_ | apply bD_ | apply bA_); refine blk_far ?_ NB451_458.out _; (with_reducible repeat first | apply bN_ | apply bD_ | apply bA_); refine blk_far ?_ NB451_458.out _; (with_reducible repeat first | apply bN_ | apply bD_ | apply bA_); exact BK451.out) hb); have n2_ := Aside0.mk (blk_below (g := gb458) (o := .cells #[.string t456, .string t457] 25 (0, 0)) (by (with_reducible repeat first | apply bN_ | apply bD_ | apply bA_); refine blk_put (cs := #[.string t456, .string (⟨#[]⟩ : ByteArray)]) ?_ 1 _ rfl; (with_reducible repeat first | apply bN_ | apply bD_ | apply bA_); refine blk_put (cs := #[.string (⟨#[]⟩ : ByteArray), .string (⟨#[]⟩ : ByteArray)]) ?_ 0 _ rfl; (with_reducible repeat first | apply bN_ | apply bD_ | apply bA_); exact BK458.out) hb); have n3_ := Aside0.mk (below_step (by repeat (first | (with_reducible first | exact HB.out | apply ba_ | apply bn_ | apply bd_ | refine bset_ ?_ (by assumption)) | exact HB.out)) hb); clear HO454; clear BK451; clear BK458; clear HB; have HO454 := n0_; have BK451 := n1_; have BK458 := n2_; have HB := n3_; clear n0_ n1_ n2_ n3_; (try clear hb); (try clear hb2); (try clear hk); (try clear hi); have hcz26_0 : w25.cell? ⟨gb458, 0, none⟩ = some (.string t456) := (blk_cell BK458.out 0).trans rfl; have hcz26_1 : w25.cell? ⟨gb458, 1, none⟩ = some (.string t457) := (blk_cell BK458.out 1).trans rfl; have hfz26_0 := blk_frozen BK458.out 0; have hfz26_1 := blk_frozen BK458.out 1) | ((with_reducible refine gate_callee (f := 11) rfl ?_); refine goesL_ (some 48) rfl rfl Tryd.func11 (by kernel_rfl) rfl #[.int .i64 t455, .agg #[.string t456, .string t457]] rfl (by (try simp only [List.map_toArray, List.map_cons, List.map_nil]); first | done | rfl | (simp only [List.length_drop, List.length_take]; rfl)) ?_; (with_reducible refine (spec_EncodeRecord.calls k t455 t456 t457 t461 t462 _ A8.out).mono ?_); rintro e w27 ⟨rfl, hb⟩; refine ⟨_, rfl, ?_⟩; have n0_ := Aside0.mk (Kd.R_below (by (with_reducible repeat first | apply kA_ | apply kN_ | apply kD_); exact HO454.out) hb); have n1_ := Aside0.mk (blk_below (g := gb451) (o := .cells #[.string t449, .string t450] 25 (0, 0)) (by (with_reducible repeat first | apply bN_ | apply bD_ | apply bA_); exact BK451.out) hb); have n2_ := Aside0.mk (blk_below (g := gb458) (o := .cells #[.string t456, .string t457] 25 (0, 0)) (by (with_reducible repeat first | apply bN_ | apply bD_ | apply bA_); exact BK458.out) hb); have n3_ := Aside0.mk (below_step (by repeat (first | (with_reducible first | exact HB.out | apply ba_ | apply bn_ | apply bd_ | refine bset_ ?_ (by assumption)) | exact HB.out)) hb); clear HO454; clear BK451; clear BK458; clear HB; have HO454 := n0_; have BK451 := n1_; have BK458 := n2_; have HB := n3_; clear n0_ n1_ n2_ n3_; (try clear hb); (try clear hb2); (try clear hk); (try clear hi)) | ((with_reducible refine gate_callee (f := 9) rfl ?_); refine goesL_ (some 52) rfl rfl Tryd.func9 (by kernel_rfl) rfl #[.slice A0 l0.length c0, .int .i64 2] rfl (by (try simp only [List.map_toArray, List.map_cons, List.map_nil]); first | done | rfl | (simp only [List.length_drop, List.length_take]; rfl)) ?_; (with_reducible refine (laws_vCut.calls _ _ l0 2 t463 _ ?side1 ?side2 A9.out).mono ?_); (case side1 => repeat (first | exact (Kd.C_below HR0.out HB.out) | (with_reducible refine Kd.C_alloc ?_ _) | (with_reducible refine Kd.C_drewN ?_ _) | (with_reducible refine Kd.C_drew ?_))); (case side2 => exact HC0.out); rintro e w28 ⟨v464, rfl, ho0, hb⟩; refine ⟨_, rfl, ?_⟩; have n0_ := Aside0.mk (Kd.R_elder' (by (with_reducible repeat first | apply kA_ | apply kN_ | apply kD_); exact HO454.out) (Kd.R_base ho0) hb); have n1_ := Aside0.mk (Kd.R_lower (Kd.R_new' ho0 (Kd.R_lt (by (with_reducible repeat first | apply kA_ | apply kN_ | apply kD_); exact HO454.out))) (below_size (by repeat (first | (with_reducible first | exact HB.out | apply ba_ | apply bn_ | apply bd_ | refine bset_ ?_ (by assumption)) | exact HB.out)))); have n2_ := Aside0.mk (blk_below (g := gb451) (o := .cells #[.string t449, .string t450] 25 (0, 0)) (by (with_reducible repeat first | apply bN_ | apply bD_ | apply bA_); exact BK451.out) hb); have n3_ := Aside0.mk (blk_below (g := gb458) (o := .cells #[.string t456, .string t457] 25 (0, 0)) (by (with_reducible repeat first | apply bN_ | apply bD_ | apply bA_); exact BK458.out) hb); have n4_ := Aside0.mk (below_step (by repeat (first | (with_reducible first | exact HB.out | apply ba_ | apply bn_ | apply bd_ | refine bset_ ?_ (by assumption)) | exact HB.out)) hb); clear HO454; clear BK451; clear BK458; clear HB; have HO454 := n0_; have HO465 := n1_; have BK451 := n2_; have BK458 := n3_; have HB := n4_; clear n0_ n1_ n2_ n3_ n4_; (try clear hb); (try clear hb2); (try clear hk); (try clear hi); (try clear ho0); obtain ⟨Ao29, co29, eo29⟩ := Kd.R_slice HO465.out; subst eo29) | ((with_reducible refine gate_callee (f := 12) rfl ?_); refine goesL_ (some 53) rfl rfl Tryd.func12 (by kernel_rfl) rfl #[.slice Ao29 t463.length co29] rfl (by (try simp only [List.map_toArray, List.map_cons, List.map_nil]); first | done | rfl | (simp only [List.length_drop, List.length_take]; rfl)) ?_; (with_reducible refine (spec_DrawIsValidLog.calls k _ _ t463 t466 t467 t468 _ ?side1 ?side2 A10.out).mono ?_); (case side1 => repeat (first | exact (Kd.R_reads' HO465.out).2.2 | (with_reducible refine Kd.C_alloc ?_ _) | (with_reducible refine Kd.C_drewN ?_ _) | (with_reducible refine Kd.C_drew ?_))); (case side2 => exact (Kd.R_reads' HO465.out).2.1); rintro e w30 ⟨rfl, hb⟩; refine ⟨_, rfl, ?_⟩; have n0_ := Aside0.mk (Kd.R_below (by (with_reducible repeat first | apply kA_ | apply kN_ | apply kD_); exact HO454.out) hb); have n1_ := Aside0.mk (Kd.R_below (by (with_reducible repeat first | apply kA_ | apply kN_ | apply kD_); exact HO465.out) hb); have n2_ := Aside0.mk (blk_below (g := gb451) (o := .cells #[.string t449, .string t450] 25 (0, 0)) (by (with_reducible repeat first | apply bN_ | apply bD_ | apply bA_); exact BK451.out) hb); have n3_ := Aside0.mk (blk_below (g := gb458) (o := .cells #[.string t456, .string t457] 25 (0, 0)) (by (with_reducible repeat first | apply bN_ | apply bD_ | apply bA_); exact BK458.out) hb); have n4_ := Aside0.mk (below_step (by repeat (first | (with_reducible first | exact HB.out | apply ba_ | apply bn_ | apply bd_ | refine bset_ ?_ (by assumption)) | exact HB.out)) hb); clear HO454; clear HO465; clear BK451; clear BK458; clear HB; have HO454 := n0_; have HO465 := n1_; have BK451 := n2_; have BK458 := n3_; have HB := n4_; clear n0_ n1_ n2_ n3_ n4_; (try clear hb); (try clear hb2); (try clear hk); (try clear hi)) | ((with_reducible refine gate_dst (N := 10) rfl ?_); (try (refine gate_guard (by rfl) ?_; dsimp only)); refine box_event ?hg (N := 10) ?hd (cs := #[.string (⟨#[]⟩ : ByteArray), .string (⟨#[]⟩ : ByteArray), .int .i64 0]) (t := 33) ?hr ?_; (case hd => rfl); (case hg => rfl); (case hr => first | (go_simp; done) | (go_simp; rfl)); intro gb469 hg w31 hbox hb; have n0_ := Aside0.mk (Kd.R_below (by (with_reducible repeat first | apply kA_ | apply kN_ | apply kD_); exact HO454.out) hb); have n1_ := Aside0.mk (Kd.R_below (by (with_reducible repeat first | apply kA_ | apply kN_ | apply kD_); exact HO465.out) hb); have n2_ := Aside0.mk (blk_below (g := gb451) (o := .cells #[.string t449, .string t450] 25 (0, 0)) (by (with_reducible repeat first | apply bN_ | apply bD_ | apply bA_); exact BK451.out) hb); have n3_ := Aside0.mk (blk_below (g := gb458) (o := .cells #[.string t456, .string t457] 25 (0, 0)) (by (with_reducible repeat first | apply bN_ | apply bD_ | apply bA_); exact BK458.out) hb); have n4_ := Aside0.mk (below_step (by repeat (first | (with_reducible first | exact HB.out | apply ba_ | apply bn_ | apply bd_ | refine bset_ ?_ (by assumption)) | exact HB.out)) hb); have n5_ := Aside0.mk (hbox); have n6_ := Aside0.mk ((by rw [hg]; exact (below_size (by repeat (first | (with_reducible first | exact HB.out | apply ba_ | apply bn_ | apply bd_ | refine bset_ ?_ (by assumption)) | exact HB.out))) : w.heap.size ≤ gb469)); have n7_ := Aside0.mk ((by rw [hg]; exact (below_size (by repeat (first | (with_reducible first | exact HB.out | apply ba_ | apply bn_ | apply bd_ | refine bset_ ?_ (by assumption)) | exact HB.out))) : w.heap.size ≤ gb469)); have n8_ := Aside0.mk ((by rw [hg]; exact Nat.ne_of_lt (blk_lt (g := gb451) (o := .cells #[.string t449, .string t450] 25 (0, 0)) (by (with_reducible repeat first | apply bN_ | apply bD_ | apply bA_); exact BK451.out)) : gb451 ≠ gb469)); have n9_ := Aside0.mk ((by rw [hg]; exact Nat.ne_of_gt (blk_lt (g := gb451) (o := .cells #[.string t449, .string t450] 25 (0, 0)) (by (with_reducible repeat first | apply bN_ | apply bD_ | apply bA_); exact BK451.out)) : gb469 ≠ gb451)); have n10_ := Aside0.mk ((by rw [hg]; exact Nat.ne_of_lt (blk_lt (g := gb458) (o := .cells #[.string t456, .string t457] 25 (0, 0)) (by (with_reducible repeat first | apply bN_ | apply bD_ | apply bA_); exact BK458.out)) : gb458 ≠ gb469)); have n11_ := Aside0.mk ((by rw [hg]; exact Nat.ne_of_gt (blk_lt (g := gb458) (o := .cells #[.string t456, .string t457] 25 (0, 0)) (by (with_reducible repeat first | apply bN_ | apply bD_ | apply bA_); exact BK458.out)) : gb469 ≠ gb458)); clear HO454; clear HO465; clear BK451; clear BK458; clear HB; have HO454 := n0_; have HO465 := n1_; have BK451 := n2_; have BK458 := n3_; have HB := n4_; have BK469 := n5_; have GW469 := n6_; have GE469 := n7_; have NB451_469 := n8_; have NB469_451 := n9_; have NB458_469 := n10_; have NB469_458 := n11_; clear n0_ n1_ n2_ n3_ n4_ n5_ n6_ n7_ n8_ n9_ n10_ n11_; clear hb hbox hg; have hnb32 := NB469_451.out; have hnc32 := NB451_469.out; have hnb33 := NB469_458.out; have hnc33 := NB458_469.out; have hcz34_0 : w31.cell? ⟨gb469, 0, none⟩ = some (.string (⟨#[]⟩ : ByteArray)) := (blk_cell BK469.out 0).trans rfl; have hcz34_1 : w31.cell? ⟨gb469, 1, none⟩ = some (.string (⟨#[]⟩ : ByteArray)) := (blk_cell BK469.out 1).trans rfl; have hcz34_2 : w31.cell? ⟨gb469, 2, none⟩ = some (.int .i64 0) := (blk_cell BK469.out 2).trans rfl; have hfz34_0 := blk_frozen BK469.out 0; have hfz34_1 := blk_frozen BK469.out 1; have hfz34_2 := blk_frozen BK469.out 2) | ((with_reducible refine gate_callee (f := 9) rfl ?_); refine goesL_ (some 56) rfl rfl Tryd.func9 (by kernel_rfl) rfl #[.slice A0 l0.length c0, .int .i64 3] rfl (by (try simp only [List.map_toArray, List.map_cons, List.map_nil]); first | done | rfl | (simp only [List.length_drop, List.length_take]; rfl)) ?_; (with_reducible refine (laws_vCut.calls _ _ l0 3 t470 _ ?side1 ?side2 A11.out).mono ?_); (case side1 => exact Kd.C_below HR0.out (by repeat (first | (with_reducible first | exact HB.out | apply ba_ | apply bn_ | apply bd_ | refine bset_ ?_ (by assumption)) | exact HB.out))); (case side2 => exact HC0.out); rintro e w35 ⟨v471, rfl, ho0, hb⟩; refine ⟨_, rfl, ?_⟩; have n0_ := Aside0.mk (Kd.R_elder' (by (with_reducible repeat first | apply kA_ | apply kN_ | apply kD_); exact (Kd.R_mono (Kd.R_far (p := ⟨gb469, 2, none⟩) (Kd.R_far (p := ⟨gb469, 1, none⟩) (Kd.R_far (p := ⟨gb469, 0, none⟩) (Kd.R_types HO454.out BK469.out (by decide)) (fun _ hk => hk.2) (.string t466)) (fun _ hk => hk.2) (.string t467)) (fun _ hk => hk.2) (.int .i64 t468)) (fun _ h_ => h_.1))) (Kd.R_base ho0) hb); have n1_ := Aside0.mk (Kd.R_elder' (by (with_reducible repeat first | apply kA_ | apply kN_ | apply kD_); exact (Kd.R_mono (Kd.R_far (p := ⟨gb469, 2, none⟩) (Kd.R_far (p := ⟨gb469, 1, none⟩) (Kd.R_far (p := ⟨gb469, 0, none⟩) (Kd.R_types HO465.out BK469.out (by decide)) (fun _ hk => hk.2) (.string t466)) (fun _ hk => hk.2) (.string t467)) (fun _ hk => hk.2) (.int .i64 t468)) (fun _ h_ => h_.1))) (Kd.R_base ho0) hb); have n2_ := Aside0.mk (Kd.R_lower (Kd.R_new' (Kd.R_new' ho0 (Kd.R_lt (by (with_reducible repeat first | apply kA_ | apply kN_ | apply kD_); exact (Kd.R_mono (Kd.R_far (p := ⟨gb469, 2, none⟩) (Kd.R_far (p := ⟨gb469, 1, none⟩) (Kd.R_far (p := ⟨gb469, 0, none⟩) (Kd.R_types HO454.out BK469.out (by decide)) (fun _ hk => hk.2) (.string t466)) (fun _ hk => hk.2) (.string t467)) (fun _ hk => hk.2) (.int .i64 t468)) (fun _ h_ => h_.1))))) (Kd.R_lt (by (with_reducible repeat first | apply kA_ | apply kN_ | apply kD_); exact (Kd.R_mono (Kd.R_far (p := ⟨gb469, 2, none⟩) (Kd.R_far (p := ⟨gb469, 1, none⟩) (Kd.R_far (p := ⟨gb469, 0, none⟩) (Kd.R_types HO465.out BK469.out (by decide)) (fun _ hk => hk.2) (.string t466)) (fun _ hk => hk.2) (.string t467)) (fun _ hk => hk.2) (.int .i64 t468)) (fun _ h_ => h_.1))))) (below_size (by repeat (first | (with_reducible first | exact HB.out | apply ba_ | apply bn_ | apply bd_ | refine bset_ ?_ (by assumption)) | exact HB.out)))); have n3_ := Aside0.mk (blk_below (g := gb451) (o := .cells #[.string t449, .string t450] 25 (0, 0)) (by (with_reducible repeat first | apply bN_ | apply bD_ | apply bA_); refine blk_far ?_ NB451_469.out _; (with_reducible repeat first | apply bN_ | apply bD_ | apply bA_); refine blk_far ?_ NB451_469.out _; (with_reducible repeat first | apply bN_ | apply bD_ | apply bA_); refine blk_far ?_ NB451_469.out _; (with_reducible repeat first | apply bN_ | apply bD_ | apply bA_); exact BK451.out) hb); have n4_ := Aside0.mk (blk_below (g := gb458) (o := .cells #[.string t456, .string t457] 25 (0, 0)) (by (with_reducible repeat first | apply bN_ | apply bD_ | apply bA_); refine blk_far ?_ NB458_469.out _; (with_reducible repeat first | apply bN_ | apply bD_ | apply bA_); refine blk_far ?_ NB458_469.out _; (with_reducible repeat first | apply bN_ | apply bD_ | apply bA_); refine blk_far ?_ NB458_469.out _; (with_reducible repeat first | apply bN_ | apply bD_ | apply bA_); exact BK458.out) hb); have n5_ := Aside0.mk (blk_below (g := gb469) (o := .cells #[.string t466, .string t467, .int .i64 t468] 33 (0, 0)) (by (with_reducible repeat first | apply bN_ | apply bD_ | apply bA_); refine blk_put (cs := #[.string t466, .string t467, .int .i64 0]) ?_ 2 _ rfl; (with_reducible repeat first | apply bN_ | apply bD_ | apply bA_); refine blk_put (cs := #[.string t466, .string (⟨#[]⟩ : ByteArray), .int .i64 0]) ?_ 1 _ rfl; (with_reducible repeat first | apply bN_ | apply bD_ | apply bA_); refine blk_put (cs := #[.string (⟨#[]⟩ : ByteArray), .string (⟨#[]⟩ : ByteArray), .int .i64 0]) ?_ 0 _ rfl; (with_reducible repeat first | apply bN_ | apply bD_ | apply bA_); exact BK469.out) hb); have n6_ := Aside0.mk (below_step (by repeat (first | (with_reducible first | exact HB.out | apply ba_ | apply bn_ | apply bd_ | refine bset_ ?_ (by assumption)) | exact HB.out)) hb); clear HO454; clear HO465; clear BK451; clear BK458; clear BK469; clear HB; have HO454 := n0_; have HO465 := n1_; have HO472 := n2_; have BK451 := n3_; have BK458 := n4_; have BK469 := n5_; have HB := n6_; clear n0_ n1_ n2_ n3_ n4_ n5_ n6_; (try clear hb); (try clear hb2); (try clear hk); (try clear hi); (try clear ho0); obtain ⟨Ao36, co36, eo36⟩ := Kd.R_slice HO472.out; subst eo36) | ((with_reducible refine gate_callee (f := 13) rfl ?_); refine goesL_ (some 57) rfl rfl Tryd.func13 (by kernel_rfl) rfl #[.slice Ao36 t470.length co36] rfl (by (try simp only [List.map_toArray, List.map_cons, List.map_nil]); first | done | rfl | (simp only [List.length_drop, List.length_take]; rfl)) ?_; (with_reducible refine (spec_DrawAppendRecord.calls k _ _ t470 t473 t474 t475 t476 t477 _ ?side1 ?side2 A12.out).mono ?_); (case side1 => repeat (first | exact (Kd.R_reads' HO472.out).2.2 | (with_reducible refine Kd.C_alloc ?_ _) | (with_reducible refine Kd.C_drewN ?_ _) | (with_reducible refine Kd.C_drew ?_))); (case side2 => exact (Kd.R_reads' HO472.out).2.1); rintro e w37 ⟨rfl, hb⟩; refine ⟨_, rfl, ?_⟩; have n0_ := Aside0.mk (Kd.R_below (by (with_reducible repeat first | apply kA_ | apply kN_ | apply kD_); exact HO454.out) hb); have n1_ := Aside0.mk (Kd.R_below (by (with_reducible repeat first | apply kA_ | apply kN_ | apply kD_); exact HO465.out) hb); have n2_ := Aside0.mk (Kd.R_below (by (with_reducible repeat first | apply kA_ | apply kN_ | apply kD_); exact HO472.out) hb); have n3_ := Aside0.mk (blk_below (g := gb451) (o := .cells #[.string t449, .string t450] 25 (0, 0)) (by (with_reducible repeat first | apply bN_ | apply bD_ | apply bA_); exact BK451.out) hb); have n4_ := Aside0.mk (blk_below (g := gb458) (o := .cells #[.string t456, .string t457] 25 (0, 0)) (by (with_reducible repeat first | apply bN_ | apply bD_ | apply bA_); exact BK458.out) hb); have n5_ := Aside0.mk (blk_below (g := gb469) (o := .cells #[.string t466, .string t467, .int .i64 t468] 33 (0, 0)) (by (with_reducible repeat first | apply bN_ | apply bD_ | apply bA_); exact BK469.out) hb); have n6_ := Aside0.mk (below_step (by repeat (first | (with_reducible first | exact HB.out | apply ba_ | apply bn_ | apply bd_ | refine bset_ ?_ (by assumption)) | exact HB.out)) hb); clear HO454; clear HO465; clear HO472; clear BK451; clear BK458; clear BK469; clear HB; have HO454 := n0_; have HO465 := n1_; have HO472 := n2_; have BK451 := n3_; have BK458 := n4_; have BK469 := n5_; have HB := n6_; clear n0_ n1_ n2_ n3_ n4_ n5_ n6_; (try clear hb); (try clear hb2); (try clear hk); (try clear hi)) | ((with_reducible refine gate_dst (N := 11) rfl ?_); (try (refine gate_guard (by rfl) ?_; dsimp only)); refine box_event ?hg (N := 11) ?hd (cs := #[.string (⟨#[]⟩ : ByteArray), .string (⟨#[]⟩ : ByteArray), .int .i64 0]) (t := 33) ?hr ?_; (case hd => rfl); (case hg => rfl); (case hr => first | (go_simp; done) | (go_simp; rfl)); intro gb478 hg w38 hbox hb; have n0_ := Aside0.mk (Kd.R_below (by (with_reducible repeat first | apply kA_ | apply kN_ | apply kD_); exact HO454.out) hb); have n1_ := Aside0.mk (Kd.R_below (by (with_reducible repeat first | apply kA_ | apply kN_ | apply kD_); exact HO465.out) hb); have n2_ := Aside0.mk (Kd.R_below (by (with_reducible repeat first | apply kA_ | apply kN_ | apply kD_); exact HO472.out) hb); have n3_ := Aside0.mk (blk_below (g := gb451) (o := .cells #[.string t449, .string t450] 25 (0, 0)) (by (with_reducible repeat first | apply bN_ | apply bD_ | apply bA_); exact BK451.out) hb); have n4_ := Aside0.mk (blk_below (g := gb458) (o := .cells #[.string t456, .string t457] 25 (0, 0)) (by (with_reducible repeat first | apply bN_ | apply bD_ | apply bA_); exact BK458.out) hb); have n5_ := Aside0.mk (blk_below (g := gb469) (o := .cells #[.string t466, .string t467, .int .i64 t468] 33 (0, 0)) (by (with_reducible repeat first | apply bN_ | apply bD_ | apply bA_); exact BK469.out) hb); have n6_ := Aside0.mk (below_step (by repeat (first | (with_reducible first | exact HB.out | apply ba_ | apply bn_ | apply bd_ | refine bset_ ?_ (by assumption)) | exact HB.out)) hb); have n7_ := Aside0.mk (hbox); have n8_ := Aside0.mk ((by rw [hg]; exact (below_size (by repeat (first | (with_reducible first | exact HB.out | apply ba_ | apply bn_ | apply bd_ | refine bset_ ?_ (by assumption)) | exact HB.out))) : w.heap.size ≤ gb478)); have n9_ := Aside0.mk ((by rw [hg]; exact (below_size (by repeat (first | (with_reducible first | exact HB.out | apply ba_ | apply bn_ | apply bd_ | refine bset_ ?_ (by assumption)) | exact HB.out))) : w.heap.size ≤ gb478)); have n10_ := Aside0.mk ((by rw [hg]; exact Nat.ne_of_lt (blk_lt (g := gb451) (o := .cells #[.string t449, .string t450] 25 (0, 0)) (by (with_reducible repeat first | apply bN_ | apply bD_ | apply bA_); exact BK451.out)) : gb451 ≠ gb478)); have n11_ := Aside0.mk ((by rw [hg]; exact Nat.ne_of_gt (blk_lt (g := gb451) (o := .cells #[.string t449, .string t450] 25 (0, 0)) (by (with_reducible repeat first | apply bN_ | apply bD_ | apply bA_); exact BK451.out)) : gb478 ≠ gb451)); have n12_ := Aside0.mk ((by rw [hg]; exact Nat.ne_of_lt (blk_lt (g := gb458) (o := .cells #[.string t456, .string t457] 25 (0, 0)) (by (with_reducible repeat first | apply bN_ | apply bD_ | apply bA_); exact BK458.out)) : gb458 ≠ gb478)); have n13_ := Aside0.mk ((by rw [hg]; exact Nat.ne_of_gt (blk_lt (g := gb458) (o := .cells #[.string t456, .string t457] 25 (0, 0)) (by (with_reducible repeat first | apply bN_ | apply bD_ | apply bA_); exact BK458.out)) : gb478 ≠ gb458)); have n14_ := Aside0.mk ((by rw [hg]; exact Nat.ne_of_lt (blk_lt (g := gb469) (o := .cells #[.string t466, .string t467, .int .i64 t468] 33 (0, 0)) (by (with_reducible repeat first | apply bN_ | apply bD_ | apply bA_); exact BK469.out)) : gb469 ≠ gb478)); have n15_ := Aside0.mk ((by rw [hg]; exact Nat.ne_of_gt (blk_lt (g := gb469) (o := .cells #[.string t466, .string t467, .int .i64 t468] 33 (0, 0)) (by (with_reducible repeat first | apply bN_ | apply bD_ | apply bA_); exact BK469.out)) : gb478 ≠ gb469)); clear HO454; clear HO465; clear HO472; clear BK451; clear BK458; clear BK469; clear HB; have HO454 := n0_; have HO465 := n1_; have HO472 := n2_; have BK451 := n3_; have BK458 := n4_; have BK469 := n5_; have HB := n6_; have BK478 := n7_; have GW478 := n8_; have GE478 := n9_; have NB451_478 := n10_; have NB478_451 := n11_; have NB458_478 := n12_; have NB478_458 := n13_; have NB469_478 := n14_; have NB478_469 := n15_; clear n0_ n1_ n2_ n3_ n4_ n5_ n6_ n7_ n8_ n9_ n10_ n11_ n12_ n13_ n14_ n15_; clear hb hbox hg) | ((with_reducible refine gate_dst (N := 12) rfl ?_); (try (refine gate_guard (by rfl) ?_; dsimp only)); refine box_event ?hg (N := 12) ?hd (cs := #[.string (⟨#[]⟩ : ByteArray), .string (⟨#[]⟩ : ByteArray)]) (t := 25) ?hr ?_; (case hd => rfl); (case hg => rfl); (case hr => first | (go_simp; done) | (go_simp; rfl)); intro gb479 hg w39 hbox hb; have n0_ := Aside0.mk (Kd.R_below (by (with_reducible repeat first | apply kA_ | apply kN_ | apply kD_); exact HO454.out) hb); have n1_ := Aside0.mk (Kd.R_below (by (with_reducible repeat first | apply kA_ | apply kN_ | apply kD_); exact HO465.out) hb); have n2_ := Aside0.mk (Kd.R_below (by (with_reducible repeat first | apply kA_ | apply kN_ | apply kD_); exact HO472.out) hb); have n3_ := Aside0.mk (blk_below (g := gb451) (o := .cells #[.string t449, .string t450] 25 (0, 0)) (by (with_reducible repeat first | apply bN_ | apply bD_ | apply bA_); exact BK451.out) hb); have n4_ := Aside0.mk (blk_below (g := gb458) (o := .cells #[.string t456, .string t457] 25 (0, 0)) (by (with_reducible repeat first | apply bN_ | apply bD_ | apply bA_); exact BK458.out) hb); have n5_ := Aside0.mk (blk_below (g := gb469) (o := .cells #[.string t466, .string t467, .int .i64 t468] 33 (0, 0)) (by (with_reducible repeat first | apply bN_ | apply bD_ | apply bA_); exact BK469.out) hb); have n6_ := Aside0.mk (blk_below (g := gb478) (o := .cells #[.string (⟨#[]⟩ : ByteArray), .string (⟨#[]⟩ : ByteArray), .int .i64 0] 33 (0, 0)) (by (with_reducible repeat first | apply bN_ | apply bD_ | apply bA_); exact BK478.out) hb); have n7_ := Aside0.mk (below_step (by repeat (first | (with_reducible first | exact HB.out | apply ba_ | apply bn_ | apply bd_ | refine bset_ ?_ (by assumption)) | exact HB.out)) hb); have n8_ := Aside0.mk (hbox); have n9_ := Aside0.mk ((by rw [hg]; exact (below_size (by repeat (first | (with_reducible first | exact HB.out | apply ba_ | apply bn_ | apply bd_ | refine bset_ ?_ (by assumption)) | exact HB.out))) : w.heap.size ≤ gb479)); have n10_ := Aside0.mk ((by rw [hg]; exact (below_size (by repeat (first | (with_reducible first | exact HB.out | apply ba_ | apply bn_ | apply bd_ | refine bset_ ?_ (by assumption)) | exact HB.out))) : w.heap.size ≤ gb479)); have n11_ := Aside0.mk ((by rw [hg]; exact Nat.ne_of_lt (blk_lt (g := gb451) (o := .cells #[.string t449, .string t450] 25 (0, 0)) (by (with_reducible repeat first | apply bN_ | apply bD_ | apply bA_); exact BK451.out)) : gb451 ≠ gb479)); have n12_ := Aside0.mk ((by rw [hg]; exact Nat.ne_of_gt (blk_lt (g := gb451) (o := .cells #[.string t449, .string t450] 25 (0, 0)) (by (with_reducible repeat first | apply bN_ | apply bD_ | apply bA_); exact BK451.out)) : gb479 ≠ gb451)); have n13_ := Aside0.mk ((by rw [hg]; exact Nat.ne_of_lt (blk_lt (g := gb458) (o := .cells #[.string t456, .string t457] 25 (0, 0)) (by (with_reducible repeat first | apply bN_ | apply bD_ | apply bA_); exact BK458.out)) : gb458 ≠ gb479)); have n14_ := Aside0.mk ((by rw [hg]; exact Nat.ne_of_gt (blk_lt (g := gb458) (o := .cells #[.string t456, .string t457] 25 (0, 0)) (by (with_reducible repeat first | apply bN_ | apply bD_ | apply bA_); exact BK458.out)) : gb479 ≠ gb458)); have n15_ := Aside0.mk ((by rw [hg]; exact Nat.ne_of_lt (blk_lt (g := gb469) (o := .cells #[.string t466, .string t467, .int .i64 t468] 33 (0, 0)) (by (with_reducible repeat first | apply bN_ | apply bD_ | apply bA_); exact BK469.out)) : gb469 ≠ gb479)); have n16_ := Aside0.mk ((by rw [hg]; exact Nat.ne_of_gt (blk_lt (g := gb469) (o := .cells #[.string t466, .string t467, .int .i64 t468] 33 (0, 0)) (by (with_reducible repeat first | apply bN_ | apply bD_ | apply bA_); exact BK469.out)) : gb479 ≠ gb469)); have n17_ := Aside0.mk ((by rw [hg]; exact Nat.ne_of_lt (blk_lt (g := gb478) (o := .cells #[.string (⟨#[]⟩ : ByteArray), .string (⟨#[]⟩ : ByteArray), .int .i64 0] 33 (0, 0)) (by (with_reducible repeat first | apply bN_ | apply bD_ | apply bA_); exact BK478.out)) : gb478 ≠ gb479)); have n18_ := Aside0.mk ((by rw [hg]; exact Nat.ne_of_gt (blk_lt (g := gb478) (o := .cells #[.string (⟨#[]⟩ : ByteArray), .string (⟨#[]⟩ : ByteArray), .int .i64 0] 33 (0, 0)) (by (with_reducible repeat first | apply bN_ | apply bD_ | apply bA_); exact BK478.out)) : gb479 ≠ gb478)); clear HO454; clear HO465; clear HO472; clear BK451; clear BK458; clear BK469; clear BK478; clear HB; have HO454 := n0_; have HO465 := n1_; have HO472 := n2_; have BK451 := n3_; have BK458 := n4_; have BK469 := n5_; have BK478 := n6_; have HB := n7_; have BK479 := n8_; have GW479 := n9_; have GE479 := n10_; have NB451_479 := n11_; have NB479_451 := n12_; have NB458_479 := n13_; have NB479_458 := n14_; have NB469_479 := n15_; have NB479_469 := n16_; have NB478_479 := n17_; have NB479_478 := n18_; clear n0_ n1_ n2_ n3_ n4_ n5_ n6_ n7_ n8_ n9_ n10_ n11_ n12_ n13_ n14_ n15_ n16_ n17_ n18_; clear hb hbox hg; have hnb40 := NB478_451.out; have hnc40 := NB451_478.out; have hnb41 := NB478_458.out; have hnc41 := NB458_478.out; have hnb42 := NB478_469.out; have hnc42 := NB469_478.out; have hnb43 := NB478_479.out; have hnc43 := NB479_478.out; have hcz44_0 : w39.cell? ⟨gb478, 0, none⟩ = some (.string (⟨#[]⟩ : ByteArray)) := (blk_cell BK478.out 0).trans rfl; have hcz44_1 : w39.cell? ⟨gb478, 1, none⟩ = some (.string (⟨#[]⟩ : ByteArray)) := (blk_cell BK478.out 1).trans rfl; have hcz44_2 : w39.cell? ⟨gb478, 2, none⟩ = some (.int .i64 0) := (blk_cell BK478.out 2).trans rfl; have hfz44_0 := blk_frozen BK478.out 0; have hfz44_1 := blk_frozen BK478.out 1; have hfz44_2 := blk_frozen BK478.out 2; have hnb45 := NB479_451.out; have hnc45 := NB451_479.out; have hnb46 := NB479_458.out; have hnc46 := NB458_479.out; have hnb47 := NB479_469.out; have hnc47 := NB469_479.out; have hcz48_0 : w39.cell? ⟨gb479, 0, none⟩ = some (.string (⟨#[]⟩ : ByteArray)) := (blk_cell BK479.out 0).trans rfl; have hcz48_1 : w39.cell? ⟨gb479, 1, none⟩ = some (.string (⟨#[]⟩ : ByteArray)) := (blk_cell BK479.out 1).trans rfl; have hfz48_0 := blk_frozen BK479.out 0; have hfz48_1 := blk_frozen BK479.out 1) | ((with_reducible refine gate_callee (f := 14) rfl ?_); refine goesL_ (some 63) rfl rfl Tryd.func14 (by kernel_rfl) rfl #[.agg #[.string t473, .string t474, .int .i64 t475], .agg #[.string t476, .string t477]] rfl (by (try simp only [List.map_toArray, List.map_cons, List.map_nil]); first | done | rfl | (simp only [List.length_drop, List.length_take]; rfl)) ?_; (with_reducible refine (impl_AppendRecord.calls k t473 t474 t475 t476 t477 t480 t481 t482 t483 _ ?side1 A13.out).mono ?_); (case side1 => exact TabOK.below HT.out (by repeat (first | (with_reducible first | exact HB.out | apply ba_ | apply bn_ | apply bd_ | refine bset_ ?_ (by assumption)) | exact HB.out))); rintro e w49 ⟨rfl, hb⟩; refine ⟨_, rfl, ?_⟩; have n0_ := Aside0.mk (Kd.R_below (by (with_reducible repeat first | apply kA_ | apply kN_ | apply kD_); exact (Kd.R_mono (Kd.R_mono (Kd.R_far (p := ⟨gb479, 1, none⟩) (Kd.R_far (p := ⟨gb479, 0, none⟩) (Kd.R_far (p := ⟨gb478, 2, none⟩) (Kd.R_far (p := ⟨gb478, 1, none⟩) (Kd.R_far (p := ⟨gb478, 0, none⟩) (Kd.R_types (Kd.R_types HO454.out BK478.out (by decide)) BK479.out (by decide)) (fun _ hk => hk.1.2) (.string t473)) (fun _ hk => hk.1.2) (.string t474)) (fun _ hk => hk.1.2) (.int .i64 t475)) (fun _ hk => hk.2) (.string t476)) (fun _ hk => hk.2) (.string t477)) (fun _ h_ => h_.1)) (fun _ h_ => h_.1))) hb); have n1_ := Aside0.mk (Kd.R_below (by (with_reducible repeat first | apply kA_ | apply kN_ | apply kD_); exact (Kd.R_mono (Kd.R_mono (Kd.R_far (p := ⟨gb479, 1, none⟩) (Kd.R_far (p := ⟨gb479, 0, none⟩) (Kd.R_far (p := ⟨gb478, 2, none⟩) (Kd.R_far (p := ⟨gb478, 1, none⟩) (Kd.R_far (p := ⟨gb478, 0, none⟩) (Kd.R_types (Kd.R_types HO465.out BK478.out (by decide)) BK479.out (by decide)) (fun _ hk => hk.1.2) (.string t473)) (fun _ hk => hk.1.2) (.string t474)) (fun _ hk => hk.1.2) (.int .i64 t475)) (fun _ hk => hk.2) (.string t476)) (fun _ hk => hk.2) (.string t477)) (fun _ h_ => h_.1)) (fun _ h_ => h_.1))) hb); have n2_ := Aside0.mk (Kd.R_below (by (with_reducible repeat first | apply kA_ | apply kN_ | apply kD_); exact (Kd.R_mono (Kd.R_mono (Kd.R_far (p := ⟨gb479, 1, none⟩) (Kd.R_far (p := ⟨gb479, 0, none⟩) (Kd.R_far (p := ⟨gb478, 2, none⟩) (Kd.R_far (p := ⟨gb478, 1, none⟩) (Kd.R_far (p := ⟨gb478, 0, none⟩) (Kd.R_types (Kd.R_types HO472.out BK478.out (by decide)) BK479.out (by decide)) (fun _ hk => hk.1.2) (.string t473)) (fun _ hk => hk.1.2) (.string t474)) (fun _ hk => hk.1.2) (.int .i64 t475)) (fun _ hk => hk.2) (.string t476)) (fun _ hk => hk.2) (.string t477)) (fun _ h_ => h_.1)) (fun _ h_ => h_.1))) hb); have n3_ := Aside0.mk (blk_below (g := gb451) (o := .cells #[.string t449, .string t450] 25 (0, 0)) (by (with_reducible repeat first | apply bN_ | apply bD_ | apply bA_); refine blk_far ?_ NB451_479.out _; (with_reducible repeat first | apply bN_ | apply bD_ | apply bA_); refine blk_far ?_ NB451_479.out _; (with_reducible repeat first | apply bN_ | apply bD_ | apply bA_); refine blk_far ?_ NB451_478.out _; (with_reducible repeat first | apply bN_ | apply bD_ | apply bA_); refine blk_far ?_ NB451_478.out _; (with_reducible repeat first | apply bN_ | apply bD_ | apply bA_); refine blk_far ?_ NB451_478.out _; (with_reducible repeat first | apply bN_ | apply bD_ | apply bA_); exact BK451.out) hb); have n4_ := Aside0.mk (blk_below (g := gb458) (o := .cells #[.string t456, .string t457] 25 (0, 0)) (by (with_reducible repeat first | apply bN_ | apply bD_ | apply bA_); refine blk_far ?_ NB458_479.out _; (with_reducible repeat first | apply bN_ | apply bD_ | apply bA_); refine blk_far ?_ NB458_479.out _; (with_reducible repeat first | apply bN_ | apply bD_ | apply bA_); refine blk_far ?_ NB458_478.out _; (with_reducible repeat first | apply bN_ | apply bD_ | apply bA_); refine blk_far ?_ NB458_478.out _; (with_reducible repeat first | apply bN_ | apply bD_ | apply bA_); refine blk_far ?_ NB458_478.out _; (with_reducible repeat first | apply bN_ | apply bD_ | apply bA_); exact BK458.out) hb); have n5_ := Aside0.mk (blk_below (g := gb469) (o := .cells #[.string t466, .string t467, .int .i64 t468] 33 (0, 0)) (by (with_reducible repeat first | apply bN_ | apply bD_ | apply bA_); refine blk_far ?_ NB469_479.out _; (with_reducible repeat first | apply bN_ | apply bD_ | apply bA_); refine blk_far ?_ NB469_479.out _; (with_reducible repeat first | apply bN_ | apply bD_ | apply bA_); refine blk_far ?_ NB469_478.out _; (with_reducible repeat first | apply bN_ | apply bD_ | apply bA_); refine blk_far ?_ NB469_478.out _; (with_reducible repeat first | apply bN_ | apply bD_ | apply bA_); refine blk_far ?_ NB469_478.out _; (with_reducible repeat first | apply bN_ | apply bD_ | apply bA_); exact BK469.out) hb); have n6_ := Aside0.mk (blk_below (g := gb478) (o := .cells #[.string t473, .string t474, .int .i64 t475] 33 (0, 0)) (by (with_reducible repeat first | apply bN_ | apply bD_ | apply bA_); refine blk_far ?_ NB478_479.out _; (with_reducible repeat first | apply bN_ | apply bD_ | apply bA_); refine blk_far ?_ NB478_479.out _; (with_reducible repeat first | apply bN_ | apply bD_ | apply bA_); refine blk_put (cs := #[.string t473, .string t474, .int .i64 0]) ?_ 2 _ rfl; (with_reducible repeat first | apply bN_ | apply bD_ | apply bA_); refine blk_put (cs := #[.string t473, .string (⟨#[]⟩ : ByteArray), .int .i64 0]) ?_ 1 _ rfl; (with_reducible repeat first | apply bN_ | apply bD_ | apply bA_); refine blk_put (cs := #[.string (⟨#[]⟩ : ByteArray), .string (⟨#[]⟩ : ByteArray), .int .i64 0]) ?_ 0 _ rfl; (with_reducible repeat first | apply bN_ | apply bD_ | apply bA_); exact BK478.out) hb); have n7_ := Aside0.mk (blk_below (g := gb479) (o := .cells #[.string t476, .string t477] 25 (0, 0)) (by (with_reducible repeat first | apply bN_ | apply bD_ | apply bA_); refine blk_put (cs := #[.string t476, .string (⟨#[]⟩ : ByteArray)]) ?_ 1 _ rfl; (with_reducible repeat first | apply bN_ | apply bD_ | apply bA_); refine blk_put (cs := #[.string (⟨#[]⟩ : ByteArray), .string (⟨#[]⟩ : ByteArray)]) ?_ 0 _ rfl; (with_reducible repeat first | apply bN_ | apply bD_ | apply bA_); refine blk_far ?_ NB479_478.out _; (with_reducible repeat first | apply bN_ | apply bD_ | apply bA_); refine blk_far ?_ NB479_478.out _; (with_reducible repeat first | apply bN_ | apply bD_ | apply bA_); refine blk_far ?_ NB479_478.out _; (with_reducible repeat first | apply bN_ | apply bD_ | apply bA_); exact BK479.out) hb); have n8_ := Aside0.mk (below_step (by repeat (first | (with_reducible first | exact HB.out | apply ba_ | apply bn_ | apply bd_ | refine bset_ ?_ (by assumption)) | exact HB.out)) hb); clear HO454; clear HO465; clear HO472; clear BK451; clear BK458; clear BK469; clear BK478; clear BK479; clear HB; have HO454 := n0_; have HO465 := n1_; have HO472 := n2_; have BK451 := n3_; have BK458 := n4_; have BK469 := n5_; have BK478 := n6_; have BK479 := n7_; have HB := n8_; clear n0_ n1_ n2_ n3_ n4_ n5_ n6_ n7_ n8_; (try clear hb); (try clear hb2); (try clear hk); (try clear hi)) | ((with_reducible refine gate_dst (N := 13) rfl ?_); (try (refine gate_guard (by rfl) ?_; dsimp only)); refine box_event ?hg (N := 13) ?hd (cs := #[.string (⟨#[]⟩ : ByteArray), .string (⟨#[]⟩ : ByteArray), .int .i64 0]) (t := 33) ?hr ?_; (case hd => rfl); (case hg => rfl); (case hr => first | (go_simp; done) | (go_simp; rfl)); intro gb484 hg w50 hbox hb; have n0_ := Aside0.mk (Kd.R_below (by (with_reducible repeat first | apply kA_ | apply kN_ | apply kD_); exact HO454.out) hb); have n1_ := Aside0.mk (Kd.R_below (by (with_reducible repeat first | apply kA_ | apply kN_ | apply kD_); exact HO465.out) hb); have n2_ := Aside0.mk (Kd.R_below (by (with_reducible repeat first | apply kA_ | apply kN_ | apply kD_); exact HO472.out) hb); have n3_ := Aside0.mk (blk_below (g := gb451) (o := .cells #[.string t449, .string t450] 25 (0, 0)) (by (with_reducible repeat first | apply bN_ | apply bD_ | apply bA_); exact BK451.out) hb); have n4_ := Aside0.mk (blk_below (g := gb458) (o := .cells #[.string t456, .string t457] 25 (0, 0)) (by (with_reducible repeat first | apply bN_ | apply bD_ | apply bA_); exact BK458.out) hb); have n5_ := Aside0.mk (blk_below (g := gb469) (o := .cells #[.string t466, .string t467, .int .i64 t468] 33 (0, 0)) (by (with_reducible repeat first | apply bN_ | apply bD_ | apply bA_); exact BK469.out) hb); have n6_ := Aside0.mk (blk_below (g := gb478) (o := .cells #[.string t473, .string t474, .int .i64 t475] 33 (0, 0)) (by (with_reducible repeat first | apply bN_ | apply bD_ | apply bA_); exact BK478.out) hb); have n7_ := Aside0.mk (blk_below (g := gb479) (o := .cells #[.string t476, .string t477] 25 (0, 0)) (by (with_reducible repeat first | apply bN_ | apply bD_ | apply bA_); exact BK479.out) hb); have n8_ := Aside0.mk (below_step (by repeat (first | (with_reducible first | exact HB.out | apply ba_ | apply bn_ | apply bd_ | refine bset_ ?_ (by assumption)) | exact HB.out)) hb); have n9_ := Aside0.mk (hbox); have n10_ := Aside0.mk ((by rw [hg]; exact (below_size (by repeat (first | (with_reducible first | exact HB.out | apply ba_ | apply bn_ | apply bd_ | refine bset_ ?_ (by assumption)) | exact HB.out))) : w.heap.size ≤ gb484)); have n11_ := Aside0.mk ((by rw [hg]; exact (below_size (by repeat (first | (with_reducible first | exact HB.out | apply ba_ | apply bn_ | apply bd_ | refine bset_ ?_ (by assumption)) | exact HB.out))) : w.heap.size ≤ gb484)); have n12_ := Aside0.mk ((by rw [hg]; exact Nat.ne_of_lt (blk_lt (g := gb451) (o := .cells #[.string t449, .string t450] 25 (0, 0)) (by (with_reducible repeat first | apply bN_ | apply bD_ | apply bA_); exact BK451.out)) : gb451 ≠ gb484)); have n13_ := Aside0.mk ((by rw [hg]; exact Nat.ne_of_gt (blk_lt (g := gb451) (o := .cells #[.string t449, .string t450] 25 (0, 0)) (by (with_reducible repeat first | apply bN_ | apply bD_ | apply bA_); exact BK451.out)) : gb484 ≠ gb451)); have n14_ := Aside0.mk ((by rw [hg]; exact Nat.ne_of_lt (blk_lt (g := gb458) (o := .cells #[.string t456, .string t457] 25 (0, 0)) (by (with_reducible repeat first | apply bN_ | apply bD_ | apply bA_); exact BK458.out)) : gb458 ≠ gb484)); have n15_ := Aside0.mk ((by rw [hg]; exact Nat.ne_of_gt (blk_lt (g := gb458) (o := .cells #[.string t456, .string t457] 25 (0, 0)) (by (with_reducible repeat first | apply bN_ | apply bD_ | apply bA_); exact BK458.out)) : gb484 ≠ gb458)); have n16_ := Aside0.mk ((by rw [hg]; exact Nat.ne_of_lt (blk_lt (g := gb469) (o := .cells #[.string t466, .string t467, .int .i64 t468] 33 (0, 0)) (by (with_reducible repeat first | apply bN_ | apply bD_ | apply bA_); exact BK469.out)) : gb469 ≠ gb484)); have n17_ := Aside0.mk ((by rw [hg]; exact Nat.ne_of_gt (blk_lt (g := gb469) (o := .cells #[.string t466, .string t467, .int .i64 t468] 33 (0, 0)) (by (with_reducible repeat first | apply bN_ | apply bD_ | apply bA_); exact BK469.out)) : gb484 ≠ gb469)); have n18_ := Aside0.mk ((by rw [hg]; exact Nat.ne_of_lt (blk_lt (g := gb478) (o := .cells #[.string t473, .string t474, .int .i64 t475] 33 (0, 0)) (by (with_reducible repeat first | apply bN_ | apply bD_ | apply bA_); exact BK478.out)) : gb478 ≠ gb484)); have n19_ := Aside0.mk ((by rw [hg]; exact Nat.ne_of_gt (blk_lt (g := gb478) (o := .cells #[.string t473, .string t474, .int .i64 t475] 33 (0, 0)) (by (with_reducible repeat first | apply bN_ | apply bD_ | apply bA_); exact BK478.out)) : gb484 ≠ gb478)); have n20_ := Aside0.mk ((by rw [hg]; exact Nat.ne_of_lt (blk_lt (g := gb479) (o := .cells #[.string t476, .string t477] 25 (0, 0)) (by (with_reducible repeat first | apply bN_ | apply bD_ | apply bA_); exact BK479.out)) : gb479 ≠ gb484)); have n21_ := Aside0.mk ((by rw [hg]; exact Nat.ne_of_gt (blk_lt (g := gb479) (o := .cells #[.string t476, .string t477] 25 (0, 0)) (by (with_reducible repeat first | apply bN_ | apply bD_ | apply bA_); exact BK479.out)) : gb484 ≠ gb479)); clear HO454; clear HO465; clear HO472; clear BK451; clear BK458; clear BK469; clear BK478; clear BK479; clear HB; have HO454 := n0_; have HO465 := n1_; have HO472 := n2_; have BK451 := n3_; have BK458 := n4_; have BK469 := n5_; have BK478 := n6_; have BK479 := n7_; have HB := n8_; have BK484 := n9_; have GW484 := n10_; have GE484 := n11_; have NB451_484 := n12_; have NB484_451 := n13_; have NB458_484 := n14_; have NB484_458 := n15_; have NB469_484 := n16_; have NB484_469 := n17_; have NB478_484 := n18_; have NB484_478 := n19_; have NB479_484 := n20_; have NB484_479 := n21_; clear n0_ n1_ n2_ n3_ n4_ n5_ n6_ n7_ n8_ n9_ n10_ n11_ n12_ n13_ n14_ n15_ n16_ n17_ n18_ n19_ n20_ n21_; clear hb hbox hg; have hnb51 := NB484_451.out; have hnc51 := NB451_484.out; have hnb52 := NB484_458.out; have hnc52 := NB458_484.out; have hnb53 := NB484_469.out; have hnc53 := NB469_484.out; have hnb54 := NB484_478.out; have hnc54 := NB478_484.out; have hnb55 := NB484_479.out; have hnc55 := NB479_484.out; have hcz56_0 : w50.cell? ⟨gb484, 0, none⟩ = some (.string (⟨#[]⟩ : ByteArray)) := (blk_cell BK484.out 0).trans rfl; have hcz56_1 : w50.cell? ⟨gb484, 1, none⟩ = some (.string (⟨#[]⟩ : ByteArray)) := (blk_cell BK484.out 1).trans rfl; have hcz56_2 : w50.cell? ⟨gb484, 2, none⟩ = some (.int .i64 0) := (blk_cell BK484.out 2).trans rfl; have hfz56_0 := blk_frozen BK484.out 0; have hfz56_1 := blk_frozen BK484.out 1; have hfz56_2 := blk_frozen BK484.out 2; have hcz57_0 : w50.cell? ⟨gb478, 0, none⟩ = some (.string t473) := (blk_cell BK478.out 0).trans rfl; have hcz57_1 : w50.cell? ⟨gb478, 1, none⟩ = some (.string t474) := (blk_cell BK478.out 1).trans rfl; have hcz57_2 : w50.cell? ⟨gb478, 2, none⟩ = some (.int .i64 t475) := (blk_cell BK478.out 2).trans rfl; have hfz57_0 := blk_frozen BK478.out 0; have hfz57_1 := blk_frozen BK478.out 1; have hfz57_2 := blk_frozen BK478.out 2; have hcz58_0 : w50.cell? ⟨gb479, 0, none⟩ = some (.string t476) := (blk_cell BK479.out 0).trans rfl; have hcz58_1 : w50.cell? ⟨gb479, 1, none⟩ = some (.string t477) := (blk_cell BK479.out 1).trans rfl; have hfz58_0 := blk_frozen BK479.out 0; have hfz58_1 := blk_frozen BK479.out 1) | ((with_reducible refine gate_callee (f := 15) rfl ?_); refine goesL_ (some 69) rfl rfl Tryd.func15 (by kernel_rfl) rfl #[.agg #[.string t473, .string t474, .int .i64 t475], .agg #[.string t476, .string t477]] rfl (by (try simp only [List.map_toArray, List.map_cons, List.map_nil]); first | done | rfl | (simp only [List.length_drop, List.length_take]; rfl)) ?_; (with_reducible refine (spec_AppendRecord.calls k t473 t474 t475 t476 t477 t485 t486 t487 t488 _ A14.out).mono ?_); rintro e w59 ⟨rfl, hb⟩; refine ⟨_, rfl, ?_⟩; have n0_ := Aside0.mk (Kd.R_below (by (with_reducible repeat first | apply kA_ | apply kN_ | apply kD_); exact (Kd.R_mono (Kd.R_far (p := ⟨gb484, 2, none⟩) (Kd.R_far (p := ⟨gb484, 1, none⟩) (Kd.R_far (p := ⟨gb484, 0, none⟩) (Kd.R_types HO454.out BK484.out (by decide)) (fun _ hk => hk.2) (.string t480)) (fun _ hk => hk.2) (.string t481)) (fun _ hk => hk.2) (.int .i64 t482)) (fun _ h_ => h_.1))) hb); have n1_ := Aside0.mk (Kd.R_below (by (with_reducible repeat first | apply kA_ | apply kN_ | apply kD_); exact (Kd.R_mono (Kd.R_far (p := ⟨gb484, 2, none⟩) (Kd.R_far (p := ⟨gb484, 1, none⟩) (Kd.R_far (p := ⟨gb484, 0, none⟩) (Kd.R_types HO465.out BK484.out (by decide)) (fun _ hk => hk.2) (.string t480)) (fun _ hk => hk.2) (.string t481)) (fun _ hk => hk.2) (.int .i64 t482)) (fun _ h_ => h_.1))) hb); have n2_ := Aside0.mk (Kd.R_below (by (with_reducible repeat first | apply kA_ | apply kN_ | apply kD_); exact (Kd.R_mono (Kd.R_far (p := ⟨gb484, 2, none⟩) (Kd.R_far (p := ⟨gb484, 1, none⟩) (Kd.R_far (p := ⟨gb484, 0, none⟩) (Kd.R_types HO472.out BK484.out (by decide)) (fun _ hk => hk.2) (.string t480)) (fun _ hk => hk.2) (.string t481)) (fun _ hk => hk.2) (.int .i64 t482)) (fun _ h_ => h_.1))) hb); have n3_ := Aside0.mk (blk_below (g := gb451) (o := .cells #[.string t449, .string t450] 25 (0, 0)) (by (with_reducible repeat first | apply bN_ | apply bD_ | apply bA_); refine blk_far ?_ NB451_484.out _; (with_reducible repeat first | apply bN_ | apply bD_ | apply bA_); refine blk_far ?_ NB451_484.out _; (with_reducible repeat first | apply bN_ | apply bD_ | apply bA_); refine blk_far ?_ NB451_484.out _; (with_reducible repeat first | apply bN_ | apply bD_ | apply bA_); exact BK451.out) hb); have n4_ := Aside0.mk (blk_below (g := gb458) (o := .cells #[.string t456, .string t457] 25 (0, 0)) (by (with_reducible repeat first | apply bN_ | apply bD_ | apply bA_); refine blk_far ?_ NB458_484.out _; (with_reducible repeat first | apply bN_ | apply bD_ | apply bA_); refine blk_far ?_ NB458_484.out _; (with_reducible repeat first | apply bN_ | apply bD_ | apply bA_); refine blk_far ?_ NB458_484.out _; (with_reducible repeat first | apply bN_ | apply bD_ | apply bA_); exact BK458.out) hb); have n5_ := Aside0.mk (blk_below (g := gb469) (o := .cells #[.string t466, .string t467, .int .i64 t468] 33 (0, 0)) (by (with_reducible repeat first | apply bN_ | apply bD_ | apply bA_); refine blk_far ?_ NB469_484.out _; (with_reducible repeat first | apply bN_ | apply bD_ | apply bA_); refine blk_far ?_ NB469_484.out _; (with_reducible repeat first | apply bN_ | apply bD_ | apply bA_); refine blk_far ?_ NB469_484.out _; (with_reducible repeat first | apply bN_ | apply bD_ | apply bA_); exact BK469.out) hb); have n6_ := Aside0.mk (blk_below (g := gb478) (o := .cells #[.string t473, .string t474, .int .i64 t475] 33 (0, 0)) (by (with_reducible repeat first | apply bN_ | apply bD_ | apply bA_); refine blk_far ?_ NB478_484.out _; (with_reducible repeat first | apply bN_ | apply bD_ | apply bA_); refine blk_far ?_ NB478_484.out _; (with_reducible repeat first | apply bN_ | apply bD_ | apply bA_); refine blk_far ?_ NB478_484.out _; (with_reducible repeat first | apply bN_ | apply bD_ | apply bA_); exact BK478.out) hb); have n7_ := Aside0.mk (blk_below (g := gb479) (o := .cells #[.string t476, .string t477] 25 (0, 0)) (by (with_reducible repeat first | apply bN_ | apply bD_ | apply bA_); refine blk_far ?_ NB479_484.out _; (with_reducible repeat first | apply bN_ | apply bD_ | apply bA_); refine blk_far ?_ NB479_484.out _; (with_reducible repeat first | apply bN_ | apply bD_ | apply bA_); refine blk_far ?_ NB479_484.out _; (with_reducible repeat first | apply bN_ | apply bD_ | apply bA_); exact BK479.out) hb); have n8_ := Aside0.mk (blk_below (g := gb484) (o := .cells #[.string t480, .string t481, .int .i64 t482] 33 (0, 0)) (by (with_reducible repeat first | apply bN_ | apply bD_ | apply bA_); refine blk_put (cs := #[.string t480, .string t481, .int .i64 0]) ?_ 2 _ rfl; (with_reducible repeat first | apply bN_ | apply bD_ | apply bA_); refine blk_put (cs := #[.string t480, .string (⟨#[]⟩ : ByteArray), .int .i64 0]) ?_ 1 _ rfl; (with_reducible repeat first | apply bN_ | apply bD_ | apply bA_); refine blk_put (cs := #[.string (⟨#[]⟩ : ByteArray), .string (⟨#[]⟩ : ByteArray), .int .i64 0]) ?_ 0 _ rfl; (with_reducible repeat first | apply bN_ | apply bD_ | apply bA_); exact BK484.out) hb); have n9_ := Aside0.mk (below_step (by repeat (first | (with_reducible first | exact HB.out | apply ba_ | apply bn_ | apply bd_ | refine bset_ ?_ (by assumption)) | exact HB.out)) hb); clear HO454; clear HO465; clear HO472; clear BK451; clear BK458; clear BK469; clear BK478; clear BK479; clear BK484; clear HB; have HO454 := n0_; have HO465 := n1_; have HO472 := n2_; have BK451 := n3_; have BK458 := n4_; have BK469 := n5_; have BK478 := n6_; have BK479 := n7_; have BK484 := n8_; have HB := n9_; clear n0_ n1_ n2_ n3_ n4_ n5_ n6_ n7_ n8_ n9_; (try clear hb); (try clear hb2); (try clear hk); (try clear hi)) | ((with_reducible refine gate_dst (N := 15) rfl ?_); (try (refine gate_guard (by rfl) ?_; dsimp only)); refine box_event ?hg (N := 15) ?hd (cs := #[.string (⟨#[]⟩ : ByteArray), .string (⟨#[]⟩ : ByteArray), .int .i64 0]) (t := 33) ?hr ?_; (case hd => rfl); (case hg => rfl); (case hr => first | (go_simp; done) | (go_simp; rfl)); intro gb489 hg w60 hbox hb; have n0_ := Aside0.mk (Kd.R_below (by (with_reducible repeat first | apply kA_ | apply kN_ | apply kD_); exact HO454.out) hb); have n1_ := Aside0.mk (Kd.R_below (by (with_reducible repeat first | apply kA_ | apply kN_ | apply kD_); exact HO465.out) hb); have n2_ := Aside0.mk (Kd.R_below (by (with_reducible repeat first | apply kA_ | apply kN_ | apply kD_); exact HO472.out) hb); have n3_ := Aside0.mk (blk_below (g := gb451) (o := .cells #[.string t449, .string t450] 25 (0, 0)) (by (with_reducible repeat first | apply bN_ | apply bD_ | apply bA_); exact BK451.out) hb); have n4_ := Aside0.mk (blk_below (g := gb458) (o := .cells #[.string t456, .string t457] 25 (0, 0)) (by (with_reducible repeat first | apply bN_ | apply bD_ | apply bA_); exact BK458.out) hb); have n5_ := Aside0.mk (blk_below (g := gb469) (o := .cells #[.string t466, .string t467, .int .i64 t468] 33 (0, 0)) (by (with_reducible repeat first | apply bN_ | apply bD_ | apply bA_); exact BK469.out) hb); have n6_ := Aside0.mk (blk_below (g := gb478) (o := .cells #[.string t473, .string t474, .int .i64 t475] 33 (0, 0)) (by (with_reducible repeat first | apply bN_ | apply bD_ | apply bA_); exact BK478.out) hb); have n7_ := Aside0.mk (blk_below (g := gb479) (o := .cells #[.string t476, .string t477] 25 (0, 0)) (by (with_reducible repeat first | apply bN_ | apply bD_ | apply bA_); exact BK479.out) hb); have n8_ := Aside0.mk (blk_below (g := gb484) (o := .cells #[.string t480, .string t481, .int .i64 t482] 33 (0, 0)) (by (with_reducible repeat first | apply bN_ | apply bD_ | apply bA_); exact BK484.out) hb); have n9_ := Aside0.mk (below_step (by repeat (first | (with_reducible first | exact HB.out | apply ba_ | apply bn_ | apply bd_ | refine bset_ ?_ (by assumption)) | exact HB.out)) hb); have n10_ := Aside0.mk (hbox); have n11_ := Aside0.mk ((by rw [hg]; exact (below_size (by repeat (first | (with_reducible first | exact HB.out | apply ba_ | apply bn_ | apply bd_ | refine bset_ ?_ (by assumption)) | exact HB.out))) : w.heap.size ≤ gb489)); have n12_ := Aside0.mk ((by rw [hg]; exact (below_size (by repeat (first | (with_reducible first | exact HB.out | apply ba_ | apply bn_ | apply bd_ | refine bset_ ?_ (by assumption)) | exact HB.out))) : w.heap.size ≤ gb489)); have n13_ := Aside0.mk ((by rw [hg]; exact Nat.ne_of_lt (blk_lt (g := gb451) (o := .cells #[.string t449, .string t450] 25 (0, 0)) (by (with_reducible repeat first | apply bN_ | apply bD_ | apply bA_); exact BK451.out)) : gb451 ≠ gb489)); have n14_ := Aside0.mk ((by rw [hg]; exact Nat.ne_of_gt (blk_lt (g := gb451) (o := .cells #[.string t449, .string t450] 25 (0, 0)) (by (with_reducible repeat first | apply bN_ | apply bD_ | apply bA_); exact BK451.out)) : gb489 ≠ gb451)); have n15_ := Aside0.mk ((by rw [hg]; exact Nat.ne_of_lt (blk_lt (g := gb458) (o := .cells #[.string t456, .string t457] 25 (0, 0)) (by (with_reducible repeat first | apply bN_ | apply bD_ | apply bA_); exact BK458.out)) : gb458 ≠ gb489)); have n16_ := Aside0.mk ((by rw [hg]; exact Nat.ne_of_gt (blk_lt (g := gb458) (o := .cells #[.string t456, .string t457] 25 (0, 0)) (by (with_reducible repeat first | apply bN_ | apply bD_ | apply bA_); exact BK458.out)) : gb489 ≠ gb458)); have n17_ := Aside0.mk ((by rw [hg]; exact Nat.ne_of_lt (blk_lt (g := gb469) (o := .cells #[.string t466, .string t467, .int .i64 t468] 33 (0, 0)) (by (with_reducible repeat first | apply bN_ | apply bD_ | apply bA_); exact BK469.out)) : gb469 ≠ gb489)); have n18_ := Aside0.mk ((by rw [hg]; exact Nat.ne_of_gt (blk_lt (g := gb469) (o := .cells #[.string t466, .string t467, .int .i64 t468] 33 (0, 0)) (by (with_reducible repeat first | apply bN_ | apply bD_ | apply bA_); exact BK469.out)) : gb489 ≠ gb469)); have n19_ := Aside0.mk ((by rw [hg]; exact Nat.ne_of_lt (blk_lt (g := gb478) (o := .cells #[.string t473, .string t474, .int .i64 t475] 33 (0, 0)) (by (with_reducible repeat first | apply bN_ | apply bD_ | apply bA_); exact BK478.out)) : gb478 ≠ gb489)); have n20_ := Aside0.mk ((by rw [hg]; exact Nat.ne_of_gt (blk_lt (g := gb478) (o := .cells #[.string t473, .string t474, .int .i64 t475] 33 (0, 0)) (by (with_reducible repeat first | apply bN_ | apply bD_ | apply bA_); exact BK478.out)) : gb489 ≠ gb478)); have n21_ := Aside0.mk ((by rw [hg]; exact Nat.ne_of_lt (blk_lt (g := gb479) (o := .cells #[.string t476, .string t477] 25 (0, 0)) (by (with_reducible repeat first | apply bN_ | apply bD_ | apply bA_); exact BK479.out)) : gb479 ≠ gb489)); have n22_ := Aside0.mk ((by rw [hg]; exact Nat.ne_of_gt (blk_lt (g := gb479) (o := .cells #[.string t476, .string t477] 25 (0, 0)) (by (with_reducible repeat first | apply bN_ | apply bD_ | apply bA_); exact BK479.out)) : gb489 ≠ gb479)); have n23_ := Aside0.mk ((by rw [hg]; exact Nat.ne_of_lt (blk_lt (g := gb484) (o := .cells #[.string t480, .string t481, .int .i64 t482] 33 (0, 0)) (by (with_reducible repeat first | apply bN_ | apply bD_ | apply bA_); exact BK484.out)) : gb484 ≠ gb489)); have n24_ := Aside0.mk ((by rw [hg]; exact Nat.ne_of_gt (blk_lt (g := gb484) (o := .cells #[.string t480, .string t481, .int .i64 t482] 33 (0, 0)) (by (with_reducible repeat first | apply bN_ | apply bD_ | apply bA_); exact BK484.out)) : gb489 ≠ gb484)); clear HO454; clear HO465; clear HO472; clear BK451; clear BK458; clear BK469; clear BK478; clear BK479; clear BK484; clear HB; have HO454 := n0_; have HO465 := n1_; have HO472 := n2_; have BK451 := n3_; have BK458 := n4_; have BK469 := n5_; have BK478 := n6_; have BK479 := n7_; have BK484 := n8_; have HB := n9_; have BK489 := n10_; have GW489 := n11_; have GE489 := n12_; have NB451_489 := n13_; have NB489_451 := n14_; have NB458_489 := n15_; have NB489_458 := n16_; have NB469_489 := n17_; have NB489_469 := n18_; have NB478_489 := n19_; have NB489_478 := n20_; have NB479_489 := n21_; have NB489_479 := n22_; have NB484_489 := n23_; have NB489_484 := n24_; clear n0_ n1_ n2_ n3_ n4_ n5_ n6_ n7_ n8_ n9_ n10_ n11_ n12_ n13_ n14_ n15_ n16_ n17_ n18_ n19_ n20_ n21_ n22_ n23_ n24_; clear hb hbox hg; have hnb61 := NB489_451.out; have hnc61 := NB451_489.out; have hnb62 := NB489_458.out; have hnc62 := NB458_489.out; have hnb63 := NB489_469.out; have hnc63 := NB469_489.out; have hnb64 := NB489_478.out; have hnc64 := NB478_489.out; have hnb65 := NB489_479.out; have hnc65 := NB479_489.out; have hnb66 := NB489_484.out; have hnc66 := NB484_489.out; have hcz67_0 : w60.cell? ⟨gb489, 0, none⟩ = some (.string (⟨#[]⟩ : ByteArray)) := (blk_cell BK489.out 0).trans rfl; have hcz67_1 : w60.cell? ⟨gb489, 1, none⟩ = some (.string (⟨#[]⟩ : ByteArray)) := (blk_cell BK489.out 1).trans rfl; have hcz67_2 : w60.cell? ⟨gb489, 2, none⟩ = some (.int .i64 0) := (blk_cell BK489.out 2).trans rfl; have hfz67_0 := blk_frozen BK489.out 0; have hfz67_1 := blk_frozen BK489.out 1; have hfz67_2 := blk_frozen BK489.out 2))
  (try simp only [Act.put, List.setIfInBounds_toArray, List.set_cons_zero, List.set_cons_succ])
  go_cut [103] (fun v103 wc => ∃ (kq : Nat) (x103_14 : Bool), v103 = .bool x103_14 ∧ Aside0 (laws_FnLogs.j0 kq t483 x103_14 t473 t474 t475 t476 t477 t480 t481 t482 = some r) ∧ Aside0 (kq ≤ k) ∧ Aside0 (wc.heap[gb451]? = some (.cells #[.string t449, .string t450] 25 (0, 0))) ∧ Aside0 (wc.heap[gb458]? = some (.cells #[.string t456, .string t457] 25 (0, 0))) ∧ Aside0 (wc.heap[gb469]? = some (.cells #[.string t466, .string t467, .int .i64 t468] 33 (0, 0))) ∧ Aside0 (wc.heap[gb478]? = some (.cells #[.string t473, .string t474, .int .i64 t475] 33 (0, 0))) ∧ Aside0 (wc.heap[gb479]? = some (.cells #[.string t476, .string t477] 25 (0, 0))) ∧ Aside0 (wc.heap[gb484]? = some (.cells #[.string t480, .string t481, .int .i64 t482] 33 (0, 0))) ∧ Aside0 (wc.heap[gb489]? = some (.cells #[.string t485, .string t486, .int .i64 t487] 33 (0, 0))) ∧ Aside0 (Below w.heap.size w wc))
  case first =>
   have H := HC15.out
   clear HC15
   replace H := Option.bind_eq_some_iff.mp H
   obtain ⟨t490, A680, H⟩ := H
   try dsimp only at H
   have A68 := Aside0.mk A680
   clear A680
   replace H := Option.bind_eq_some_iff.mp H
   obtain ⟨t491, A690, H⟩ := H
   try dsimp only at H
   have A69 := Aside0.mk A690
   clear A690
   by_cases c70 : (t490 != t491) = true
   ·rw [if_pos c70] at H
    have c70b0 : (t490 != t491) = true := c70
    (try (have c70b1 : decide (t490 = t491) = false := by simpa using c70))
    (try (have c70b2 : (t490 == t491) = false := by simpa using c70))
    (try (have c70b3 : ¬ (t490 = t491) := by simpa using c70))
    clear c70
    (first | rw [c70b0] | (simp only [i64_w, i32_w]; rw [c70b0]) | skip)
    exact absurd (H.trans (congrArg some hyes)) (laws_FnLogs.j0_no _ _ _ _ _ _ _ _ _ _)
   ·rw [if_neg c70] at H
    have c70b0 : (t490 != t491) = false := by simpa using c70
    (try (have c70b1 : decide (t490 = t491) = true := by simpa using c70))
    (try (have c70b2 : (t490 == t491) = true := by simpa using c70))
    clear c70
    (first | rw [c70b0] | (simp only [i64_w, i32_w]; rw [c70b0]) | skip)
    by_cases c75 : t459.toList = t461.toList
    ·rw [if_pos c75] at H
     have c75b0 : (t459.toList == t461.toList) = true := beq_iff_eq.mpr c75
     have c75b1 : (t459.toList != t461.toList) = false := bne_eq_false_iff_eq.mpr c75
     clear c75
     by_cases c76 : (t460 != t462) = true
     ·rw [if_pos c76] at H
      have c76b0 : (t460 != t462) = true := c76
      (try (have c76b1 : decide (t460 = t462) = false := by simpa using c76))
      (try (have c76b2 : (t460 == t462) = false := by simpa using c76))
      (try (have c76b3 : ¬ (t460 = t462) := by simpa using c76))
      clear c76
      exact absurd (H.trans (congrArg some hyes)) (laws_FnLogs.j0_no _ _ _ _ _ _ _ _ _ _)
     ·rw [if_neg c76] at H
      have c76b0 : (t460 != t462) = false := by simpa using c76
      (try (have c76b1 : decide (t460 = t462) = true := by simpa using c76))
      (try (have c76b2 : (t460 == t462) = true := by simpa using c76))
      clear c76
      replace H := Option.bind_eq_some_iff.mp H
      obtain ⟨t492, A810, H⟩ := H
      try dsimp only at H
      have A81 := Aside0.mk A810
      clear A810
      replace H := Option.bind_eq_some_iff.mp H
      obtain ⟨t493, A820, H⟩ := H
      try dsimp only at H
      have A82 := Aside0.mk A820
      clear A820
      by_cases c83 : (t492 != t493) = true
      ·rw [if_pos c83] at H
       have c83b0 : (t492 != t493) = true := c83
       (try (have c83b1 : decide (t492 = t493) = false := by simpa using c83))
       (try (have c83b2 : (t492 == t493) = false := by simpa using c83))
       (try (have c83b3 : ¬ (t492 = t493) := by simpa using c83))
       clear c83
       exact absurd (H.trans (congrArg some hyes)) (laws_FnLogs.j0_no _ _ _ _ _ _ _ _ _ _)
      ·rw [if_neg c83] at H
       have c83b0 : (t492 != t493) = false := by simpa using c83
       (try (have c83b1 : decide (t492 = t493) = true := by simpa using c83))
       (try (have c83b2 : (t492 == t493) = true := by simpa using c83))
       clear c83
       by_cases c90 : (!(t480.toList == t485.toList) || (!(t481.toList == t486.toList) || (!(t482 == t487)))) = true
       ·rw [if_pos c90] at H
        have c90b0 : (!(t480.toList == t485.toList) || (!(t481.toList == t486.toList) || (!(t482 == t487)))) = true := c90
        clear c90
        exact absurd (H.trans (congrArg some hyes)) (laws_FnLogs.j0_no _ _ _ _ _ _ _ _ _ _)
       ·rw [if_neg c90] at H
        have c90b0 : (!(t480.toList == t485.toList) || (!(t481.toList == t486.toList) || (!(t482 == t487)))) = false := by simpa using c90
        clear c90
        have H' := Aside0.mk H
        clear H
        try go_wp2
        have n0_ : Aside0 (Kd.R (Kd.int .u8) 5 (((w60.setCell ⟨gb489, 0, none⟩ (.string t485)).setCell ⟨gb489, 1, none⟩ (.string t486)).setCell ⟨gb489, 2, none⟩ (.int .i64 t487)) w.heap.size (fun k_ => some k_ ≠ (.slice Ao29 t463.length co29 : Value).ownBlock ∧ some k_ ≠ (.slice Ao36 t470.length co36 : Value).ownBlock) (.slice Ao20 t452.length co20) t452) := ⟨by (with_reducible repeat first | apply kA_ | apply kN_ | apply kD_); exact Kd.R_mono (Kd.R_far (p := ⟨gb489, 2, none⟩) (Kd.R_far (p := ⟨gb489, 1, none⟩) (Kd.R_far (p := ⟨gb489, 0, none⟩) (Kd.R_types HO454.out BK489.out (by decide)) (fun _ hk => hk.2) (.string t485)) (fun _ hk => hk.2) (.string t486)) (fun _ hk => hk.2) (.int .i64 t487)) (fun _ hk => ⟨hk.1.1.2, hk.1.2⟩)⟩
        have n1_ : Aside0 (Kd.R (Kd.int .u8) 5 (((w60.setCell ⟨gb489, 0, none⟩ (.string t485)).setCell ⟨gb489, 1, none⟩ (.string t486)).setCell ⟨gb489, 2, none⟩ (.int .i64 t487)) w.heap.size (fun k_ => some k_ ≠ (.slice Ao20 t452.length co20 : Value).ownBlock ∧ some k_ ≠ (.slice Ao36 t470.length co36 : Value).ownBlock) (.slice Ao29 t463.length co29) t463) := ⟨by (with_reducible repeat first | apply kA_ | apply kN_ | apply kD_); exact Kd.R_mono (Kd.R_far (p := ⟨gb489, 2, none⟩) (Kd.R_far (p := ⟨gb489, 1, none⟩) (Kd.R_far (p := ⟨gb489, 0, none⟩) (Kd.R_types HO465.out BK489.out (by decide)) (fun _ hk => hk.2) (.string t485)) (fun _ hk => hk.2) (.string t486)) (fun _ hk => hk.2) (.int .i64 t487)) (fun _ hk => ⟨hk.1.1.2, hk.1.2⟩)⟩
        have n2_ : Aside0 (Kd.R (Kd.int .u8) 5 (((w60.setCell ⟨gb489, 0, none⟩ (.string t485)).setCell ⟨gb489, 1, none⟩ (.string t486)).setCell ⟨gb489, 2, none⟩ (.int .i64 t487)) w.heap.size (fun k_ => some k_ ≠ (.slice Ao20 t452.length co20 : Value).ownBlock ∧ some k_ ≠ (.slice Ao29 t463.length co29 : Value).ownBlock) (.slice Ao36 t470.length co36) t470) := ⟨by (with_reducible repeat first | apply kA_ | apply kN_ | apply kD_); exact Kd.R_mono (Kd.R_far (p := ⟨gb489, 2, none⟩) (Kd.R_far (p := ⟨gb489, 1, none⟩) (Kd.R_far (p := ⟨gb489, 0, none⟩) (Kd.R_types HO472.out BK489.out (by decide)) (fun _ hk => hk.2) (.string t485)) (fun _ hk => hk.2) (.string t486)) (fun _ hk => hk.2) (.int .i64 t487)) (fun _ hk => ⟨hk.1.1.2, hk.1.2⟩)⟩
        have n3_ : Aside0 ((((w60.setCell ⟨gb489, 0, none⟩ (.string t485)).setCell ⟨gb489, 1, none⟩ (.string t486)).setCell ⟨gb489, 2, none⟩ (.int .i64 t487)).heap[gb451]? = some (.cells #[.string t449, .string t450] 25 (0, 0))) := ⟨by (with_reducible repeat first | apply bN_ | apply bD_ | apply bA_); refine blk_far ?_ NB451_489.out _; (with_reducible repeat first | apply bN_ | apply bD_ | apply bA_); refine blk_far ?_ NB451_489.out _; (with_reducible repeat first | apply bN_ | apply bD_ | apply bA_); refine blk_far ?_ NB451_489.out _; (with_reducible repeat first | apply bN_ | apply bD_ | apply bA_); exact BK451.out⟩
        have n4_ : Aside0 ((((w60.setCell ⟨gb489, 0, none⟩ (.string t485)).setCell ⟨gb489, 1, none⟩ (.string t486)).setCell ⟨gb489, 2, none⟩ (.int .i64 t487)).heap[gb458]? = some (.cells #[.string t456, .string t457] 25 (0, 0))) := ⟨by (with_reducible repeat first | apply bN_ | apply bD_ | apply bA_); refine blk_far ?_ NB458_489.out _; (with_reducible repeat first | apply bN_ | apply bD_ | apply bA_); refine blk_far ?_ NB458_489.out _; (with_reducible repeat first | apply bN_ | apply bD_ | apply bA_); refine blk_far ?_ NB458_489.out _; (with_reducible repeat first | apply bN_ | apply bD_ | apply bA_); exact BK458.out⟩
        have n5_ : Aside0 ((((w60.setCell ⟨gb489, 0, none⟩ (.string t485)).setCell ⟨gb489, 1, none⟩ (.string t486)).setCell ⟨gb489, 2, none⟩ (.int .i64 t487)).heap[gb469]? = some (.cells #[.string t466, .string t467, .int .i64 t468] 33 (0, 0))) := ⟨by (with_reducible repeat first | apply bN_ | apply bD_ | apply bA_); refine blk_far ?_ NB469_489.out _; (with_reducible repeat first | apply bN_ | apply bD_ | apply bA_); refine blk_far ?_ NB469_489.out _; (with_reducible repeat first | apply bN_ | apply bD_ | apply bA_); refine blk_far ?_ NB469_489.out _; (with_reducible repeat first | apply bN_ | apply bD_ | apply bA_); exact BK469.out⟩
        have n6_ : Aside0 ((((w60.setCell ⟨gb489, 0, none⟩ (.string t485)).setCell ⟨gb489, 1, none⟩ (.string t486)).setCell ⟨gb489, 2, none⟩ (.int .i64 t487)).heap[gb478]? = some (.cells #[.string t473, .string t474, .int .i64 t475] 33 (0, 0))) := ⟨by (with_reducible repeat first | apply bN_ | apply bD_ | apply bA_); refine blk_far ?_ NB478_489.out _; (with_reducible repeat first | apply bN_ | apply bD_ | apply bA_); refine blk_far ?_ NB478_489.out _; (with_reducible repeat first | apply bN_ | apply bD_ | apply bA_); refine blk_far ?_ NB478_489.out _; (with_reducible repeat first | apply bN_ | apply bD_ | apply bA_); exact BK478.out⟩
        have n7_ : Aside0 ((((w60.setCell ⟨gb489, 0, none⟩ (.string t485)).setCell ⟨gb489, 1, none⟩ (.string t486)).setCell ⟨gb489, 2, none⟩ (.int .i64 t487)).heap[gb479]? = some (.cells #[.string t476, .string t477] 25 (0, 0))) := ⟨by (with_reducible repeat first | apply bN_ | apply bD_ | apply bA_); refine blk_far ?_ NB479_489.out _; (with_reducible repeat first | apply bN_ | apply bD_ | apply bA_); refine blk_far ?_ NB479_489.out _; (with_reducible repeat first | apply bN_ | apply bD_ | apply bA_); refine blk_far ?_ NB479_489.out _; (with_reducible repeat first | apply bN_ | apply bD_ | apply bA_); exact BK479.out⟩
        have n8_ : Aside0 ((((w60.setCell ⟨gb489, 0, none⟩ (.string t485)).setCell ⟨gb489, 1, none⟩ (.string t486)).setCell ⟨gb489, 2, none⟩ (.int .i64 t487)).heap[gb484]? = some (.cells #[.string t480, .string t481, .int .i64 t482] 33 (0, 0))) := ⟨by (with_reducible repeat first | apply bN_ | apply bD_ | apply bA_); refine blk_far ?_ NB484_489.out _; (with_reducible repeat first | apply bN_ | apply bD_ | apply bA_); refine blk_far ?_ NB484_489.out _; (with_reducible repeat first | apply bN_ | apply bD_ | apply bA_); refine blk_far ?_ NB484_489.out _; (with_reducible repeat first | apply bN_ | apply bD_ | apply bA_); exact BK484.out⟩
        have n9_ : Aside0 ((((w60.setCell ⟨gb489, 0, none⟩ (.string t485)).setCell ⟨gb489, 1, none⟩ (.string t486)).setCell ⟨gb489, 2, none⟩ (.int .i64 t487)).heap[gb489]? = some (.cells #[.string t485, .string t486, .int .i64 t487] 33 (0, 0))) := ⟨by (with_reducible repeat first | apply bN_ | apply bD_ | apply bA_); refine blk_put (cs := #[.string t485, .string t486, .int .i64 0]) ?_ 2 _ rfl; (with_reducible repeat first | apply bN_ | apply bD_ | apply bA_); refine blk_put (cs := #[.string t485, .string (⟨#[]⟩ : ByteArray), .int .i64 0]) ?_ 1 _ rfl; (with_reducible repeat first | apply bN_ | apply bD_ | apply bA_); refine blk_put (cs := #[.string (⟨#[]⟩ : ByteArray), .string (⟨#[]⟩ : ByteArray), .int .i64 0]) ?_ 0 _ rfl; (with_reducible repeat first | apply bN_ | apply bD_ | apply bA_); exact BK489.out⟩
        have n10_ : Aside0 (Below w.heap.size w (((w60.setCell ⟨gb489, 0, none⟩ (.string t485)).setCell ⟨gb489, 1, none⟩ (.string t486)).setCell ⟨gb489, 2, none⟩ (.int .i64 t487))) := ⟨by repeat (first | (with_reducible first | exact HB.out | apply ba_ | apply bn_ | apply bd_ | refine bset_ ?_ (by assumption)) | exact HB.out)⟩
        (try clear HO454)
        (try clear HO465)
        (try clear HO472)
        (try clear BK451)
        (try clear BK458)
        (try clear BK469)
        (try clear BK478)
        (try clear BK479)
        (try clear BK484)
        (try clear BK489)
        (try clear HB)
        generalize (((w60.setCell ⟨gb489, 0, none⟩ (.string t485)).setCell ⟨gb489, 1, none⟩ (.string t486)).setCell ⟨gb489, 2, none⟩ (.int .i64 t487)) = w97 at n0_ n1_ n2_ n3_ n4_ n5_ n6_ n7_ n8_ n9_ n10_ ⊢
        have HO454 := n0_
        have HO465 := n1_
        have HO472 := n2_
        have BK451 := n3_
        have BK458 := n4_
        have BK469 := n5_
        have BK478 := n6_
        have BK479 := n7_
        have BK484 := n8_
        have BK489 := n9_
        have HB := n10_
        clear n0_ n1_ n2_ n3_ n4_ n5_ n6_ n7_ n8_ n9_ n10_
        have n0_ := Aside0.mk (Kd.R_drew HO454.out)
        have n1_ := Aside0.mk (Kd.R_drew HO465.out)
        have n2_ := Aside0.mk (Kd.R_drew HO472.out)
        have n3_ := Aside0.mk (blk_drew BK451.out)
        have n4_ := Aside0.mk (blk_drew BK458.out)
        have n5_ := Aside0.mk (blk_drew BK469.out)
        have n6_ := Aside0.mk (blk_drew BK478.out)
        have n7_ := Aside0.mk (blk_drew BK479.out)
        have n8_ := Aside0.mk (blk_drew BK484.out)
        have n9_ := Aside0.mk (blk_drew BK489.out)
        have n10_ := Aside0.mk (below_drew1 HB.out)
        clear HO454
        clear HO465
        clear HO472
        clear BK451
        clear BK458
        clear BK469
        clear BK478
        clear BK479
        clear BK484
        clear BK489
        clear HB
        have HO454 := n0_
        have HO465 := n1_
        have HO472 := n2_
        have BK451 := n3_
        have BK458 := n4_
        have BK469 := n5_
        have BK478 := n6_
        have BK479 := n7_
        have BK484 := n8_
        have BK489 := n9_
        have HB := n10_
        clear n0_ n1_ n2_ n3_ n4_ n5_ n6_ n7_ n8_ n9_ n10_
        refine start_ (n := 32) (S := fun w' => w'.cell? ⟨gb451, 0, none⟩ = some (.string t449) ∧ w'.cell? ⟨gb451, 1, none⟩ = some (.string t450) ∧ w'.cell? ⟨gb469, 0, none⟩ = some (.string t466) ∧ w'.cell? ⟨gb469, 1, none⟩ = some (.string t467) ∧ w'.cell? ⟨gb469, 2, none⟩ = some (.int .i64 t468) ∧ w'.cell? ⟨gb484, 0, none⟩ = some (.string t480) ∧ w'.cell? ⟨gb484, 1, none⟩ = some (.string t481) ∧ w'.cell? ⟨gb484, 2, none⟩ = some (.int .i64 t482) ∧ w'.cell? ⟨gb489, 0, none⟩ = some (.string t485) ∧ w'.cell? ⟨gb489, 1, none⟩ = some (.string t486) ∧ w'.cell? ⟨gb489, 2, none⟩ = some (.int .i64 t487)) (ds := []) #[false, false, false, false, false, false, false, false, false, false, false, false, false, false, false, false, false, false, false, false, false, false, false, false, false, false, false, false, false, false, false, false] (by kernel_rfl) rfl rfl ⟨(blk_cell BK451.out 0).trans rfl, (blk_cell BK451.out 1).trans rfl, (blk_cell BK469.out 0).trans rfl, (blk_cell BK469.out 1).trans rfl, (blk_cell BK469.out 2).trans rfl, (blk_cell BK484.out 0).trans rfl, (blk_cell BK484.out 1).trans rfl, (blk_cell BK484.out 2).trans rfl, (blk_cell BK489.out 0).trans rfl, (blk_cell BK489.out 1).trans rfl, (blk_cell BK489.out 2).trans rfl⟩ (fun hHeld => ?_); refine with_tabW laws_FnLogs.tab11 laws_FnLogs.bits11 (fun HT_ HW_ => ?_)
        generalize w97.drew = w98 at HO454 HO465 HO472 BK451 BK458 BK469 BK478 BK479 BK484 BK489 HB hHeld ⊢
        refine take_ (i := 0) (N := some 72) (v := ?_) (a' := ?_) #[true, false, false, false, false, false, false, false, false, false, false, false, false, false, false, false, false, false, false, false, false, false, false, false, false, false, false, false, false, false, false, false] rfl rfl (take_ofW HT_.out HW_.out (by kernel_rfl)) (fun _ _ _ h => h) (Or.inl ⟨by rfl, ?_⟩) hHeld ?_ ?_
        rotate_left
        ·rintro w' ⟨s0, s1, s2, s3, s4, s5, s6, s7, s8, s9, s10⟩
         go_simp
         with_reducible rfl
        rotate_left
        ·simp only [Act.put, List.setIfInBounds_toArray, List.set_cons_zero, List.set_cons_succ, i64_w, i32_w]
         rfl
        refine take_ (i := 2) (N := some 74) (v := ?_) (a' := ?_) #[true, false, true, false, false, false, false, false, false, false, false, false, false, false, false, false, false, false, false, false, false, false, false, false, false, false, false, false, false, false, false, false] rfl rfl (take_ofW HT_.out HW_.out (by kernel_rfl)) (fun _ _ _ h => h) (Or.inl ⟨by rfl, ?_⟩) hHeld ?_ ?_
        rotate_left
        ·rintro w' ⟨s0, s1, s2, s3, s4, s5, s6, s7, s8, s9, s10⟩
         go_simp
         with_reducible rfl
        rotate_left
        ·simp only [Act.put, List.setIfInBounds_toArray, List.set_cons_zero, List.set_cons_succ, i64_w, i32_w]
         rfl
        refine one_ (i := 1) (N := some 73) #[true, true, true, false, false, false, false, false, false, false, false, false, false, false, false, false, false, false, false, false, false, false, false, false, false, false, false, false, false, false, false, false] rfl rfl (one_of HT_.out (by kernel_rfl)) (by decide) (fun K hK => ?_)
        refine goes_ Tryd.func16 (by kernel_rfl) rfl #[.agg #[.string t449, .string t450]] (by rfl) rfl rfl (by (try simp only [List.map_toArray, List.map_cons, List.map_nil]); first | done | rfl | (simp only [List.length_drop, List.length_take]; rfl)) ?_
        with_reducible refine (impl_IsValidRecord.calls k t449 t450 t490 _ A68.out).mono ?_
        rintro e w99 ⟨rfl, hb⟩
        refine ⟨_, rfl, ?_⟩
        have n0_ := Aside0.mk (Kd.R_below (by (with_reducible repeat first | apply kA_ | apply kN_ | apply kD_); exact HO454.out) hb)
        have n1_ := Aside0.mk (Kd.R_below (by (with_reducible repeat first | apply kA_ | apply kN_ | apply kD_); exact HO465.out) hb)
        have n2_ := Aside0.mk (Kd.R_below (by (with_reducible repeat first | apply kA_ | apply kN_ | apply kD_); exact HO472.out) hb)
        have n3_ := Aside0.mk (blk_below (g := gb451) (o := .cells #[.string t449, .string t450] 25 (0, 0)) (by (with_reducible repeat first | apply bN_ | apply bD_ | apply bA_); exact BK451.out) hb)
        have n4_ := Aside0.mk (blk_below (g := gb458) (o := .cells #[.string t456, .string t457] 25 (0, 0)) (by (with_reducible repeat first | apply bN_ | apply bD_ | apply bA_); exact BK458.out) hb)
        have n5_ := Aside0.mk (blk_below (g := gb469) (o := .cells #[.string t466, .string t467, .int .i64 t468] 33 (0, 0)) (by (with_reducible repeat first | apply bN_ | apply bD_ | apply bA_); exact BK469.out) hb)
        have n6_ := Aside0.mk (blk_below (g := gb478) (o := .cells #[.string t473, .string t474, .int .i64 t475] 33 (0, 0)) (by (with_reducible repeat first | apply bN_ | apply bD_ | apply bA_); exact BK478.out) hb)
        have n7_ := Aside0.mk (blk_below (g := gb479) (o := .cells #[.string t476, .string t477] 25 (0, 0)) (by (with_reducible repeat first | apply bN_ | apply bD_ | apply bA_); exact BK479.out) hb)
        have n8_ := Aside0.mk (blk_below (g := gb484) (o := .cells #[.string t480, .string t481, .int .i64 t482] 33 (0, 0)) (by (with_reducible repeat first | apply bN_ | apply bD_ | apply bA_); exact BK484.out) hb)
        have n9_ := Aside0.mk (blk_below (g := gb489) (o := .cells #[.string t485, .string t486, .int .i64 t487] 33 (0, 0)) (by (with_reducible repeat first | apply bN_ | apply bD_ | apply bA_); exact BK489.out) hb)
        have n10_ := Aside0.mk (below_step (by repeat (first | (with_reducible first | exact HB.out | apply ba_ | apply bn_ | apply bd_ | refine bset_ ?_ (by assumption)) | exact HB.out)) hb)
        clear HO454
        clear HO465
        clear HO472
        clear BK451
        clear BK458
        clear BK469
        clear BK478
        clear BK479
        clear BK484
        clear BK489
        clear HB
        have HO454 := n0_
        have HO465 := n1_
        have HO472 := n2_
        have BK451 := n3_
        have BK458 := n4_
        have BK469 := n5_
        have BK478 := n6_
        have BK479 := n7_
        have BK484 := n8_
        have BK489 := n9_
        have HB := n10_
        clear n0_ n1_ n2_ n3_ n4_ n5_ n6_ n7_ n8_ n9_ n10_
        (try clear hb)
        (try clear hb2)
        (try clear hk)
        (try clear hi)
        refine hK.out _ _ ⟨(blk_cell BK451.out 0).trans rfl, (blk_cell BK451.out 1).trans rfl, (blk_cell BK469.out 0).trans rfl, (blk_cell BK469.out 1).trans rfl, (blk_cell BK469.out 2).trans rfl, (blk_cell BK484.out 0).trans rfl, (blk_cell BK484.out 1).trans rfl, (blk_cell BK484.out 2).trans rfl, (blk_cell BK489.out 0).trans rfl, (blk_cell BK489.out 1).trans rfl, (blk_cell BK489.out 2).trans rfl⟩ (fun hHeld => ?_)
        clear hK K
        refine norm_ (a' := ?_) ?_ ?_
        rotate_left
        ·show Act.put _ (some 73) _ = _
         simp only [Act.put, List.setIfInBounds_toArray, List.set_cons_zero, List.set_cons_succ, i64_w, i32_w]
         rfl
        refine one_ (i := 3) (N := some 75) #[true, true, true, true, false, false, false, false, false, false, false, false, false, false, false, false, false, false, false, false, false, false, false, false, false, false, false, false, false, false, false, false] rfl rfl (one_of HT_.out (by kernel_rfl)) (by decide) (fun K hK => ?_)
        refine goes_ Tryd.func17 (by kernel_rfl) rfl #[.agg #[.string t449, .string t450]] (by rfl) rfl rfl (by (try simp only [List.map_toArray, List.map_cons, List.map_nil]); first | done | rfl | (simp only [List.length_drop, List.length_take]; rfl)) ?_
        with_reducible refine (spec_IsValidRecord.calls k t449 t450 t491 _ A69.out).mono ?_
        rintro e w100 ⟨rfl, hb⟩
        refine ⟨_, rfl, ?_⟩
        have n0_ := Aside0.mk (Kd.R_below (by (with_reducible repeat first | apply kA_ | apply kN_ | apply kD_); exact HO454.out) hb)
        have n1_ := Aside0.mk (Kd.R_below (by (with_reducible repeat first | apply kA_ | apply kN_ | apply kD_); exact HO465.out) hb)
        have n2_ := Aside0.mk (Kd.R_below (by (with_reducible repeat first | apply kA_ | apply kN_ | apply kD_); exact HO472.out) hb)
        have n3_ := Aside0.mk (blk_below (g := gb451) (o := .cells #[.string t449, .string t450] 25 (0, 0)) (by (with_reducible repeat first | apply bN_ | apply bD_ | apply bA_); exact BK451.out) hb)
        have n4_ := Aside0.mk (blk_below (g := gb458) (o := .cells #[.string t456, .string t457] 25 (0, 0)) (by (with_reducible repeat first | apply bN_ | apply bD_ | apply bA_); exact BK458.out) hb)
        have n5_ := Aside0.mk (blk_below (g := gb469) (o := .cells #[.string t466, .string t467, .int .i64 t468] 33 (0, 0)) (by (with_reducible repeat first | apply bN_ | apply bD_ | apply bA_); exact BK469.out) hb)
        have n6_ := Aside0.mk (blk_below (g := gb478) (o := .cells #[.string t473, .string t474, .int .i64 t475] 33 (0, 0)) (by (with_reducible repeat first | apply bN_ | apply bD_ | apply bA_); exact BK478.out) hb)
        have n7_ := Aside0.mk (blk_below (g := gb479) (o := .cells #[.string t476, .string t477] 25 (0, 0)) (by (with_reducible repeat first | apply bN_ | apply bD_ | apply bA_); exact BK479.out) hb)
        have n8_ := Aside0.mk (blk_below (g := gb484) (o := .cells #[.string t480, .string t481, .int .i64 t482] 33 (0, 0)) (by (with_reducible repeat first | apply bN_ | apply bD_ | apply bA_); exact BK484.out) hb)
        have n9_ := Aside0.mk (blk_below (g := gb489) (o := .cells #[.string t485, .string t486, .int .i64 t487] 33 (0, 0)) (by (with_reducible repeat first | apply bN_ | apply bD_ | apply bA_); exact BK489.out) hb)
        have n10_ := Aside0.mk (below_step (by repeat (first | (with_reducible first | exact HB.out | apply ba_ | apply bn_ | apply bd_ | refine bset_ ?_ (by assumption)) | exact HB.out)) hb)
        clear HO454
        clear HO465
        clear HO472
        clear BK451
        clear BK458
        clear BK469
        clear BK478
        clear BK479
        clear BK484
        clear BK489
        clear HB
        have HO454 := n0_
        have HO465 := n1_
        have HO472 := n2_
        have BK451 := n3_
        have BK458 := n4_
        have BK469 := n5_
        have BK478 := n6_
        have BK479 := n7_
        have BK484 := n8_
        have BK489 := n9_
        have HB := n10_
        clear n0_ n1_ n2_ n3_ n4_ n5_ n6_ n7_ n8_ n9_ n10_
        (try clear hb)
        (try clear hb2)
        (try clear hk)
        (try clear hi)
        refine hK.out _ _ ⟨(blk_cell BK451.out 0).trans rfl, (blk_cell BK451.out 1).trans rfl, (blk_cell BK469.out 0).trans rfl, (blk_cell BK469.out 1).trans rfl, (blk_cell BK469.out 2).trans rfl, (blk_cell BK484.out 0).trans rfl, (blk_cell BK484.out 1).trans rfl, (blk_cell BK484.out 2).trans rfl, (blk_cell BK489.out 0).trans rfl, (blk_cell BK489.out 1).trans rfl, (blk_cell BK489.out 2).trans rfl⟩ (fun hHeld => ?_)
        clear hK K
        refine norm_ (a' := ?_) ?_ ?_
        rotate_left
        ·show Act.put _ (some 75) _ = _
         simp only [Act.put, List.setIfInBounds_toArray, List.set_cons_zero, List.set_cons_succ, i64_w, i32_w]
         rfl
        refine pure_ (i := 4) (N := some 76) (v := ?_) (a' := ?_) #[true, true, true, true, true, false, false, false, false, false, false, false, false, false, false, false, false, false, false, false, false, false, false, false, false, false, false, false, false, false, false, false] rfl rfl (any_of HT_.out (by kernel_rfl)) (fun _ _ _ h => h) (Or.inl ⟨by rfl, ?_⟩) ?_ ?_
        rotate_left
        ·intro w'
         go_simp
         with_reducible rfl
        rotate_left
        ·simp only [Act.put, List.setIfInBounds_toArray, List.set_cons_zero, List.set_cons_succ, i64_w, i32_w]
         rfl
        refine pure_ (i := 5) (N := some 77) (v := ?_) (a' := ?_) #[true, true, true, true, true, true, false, false, false, false, false, false, false, false, false, false, false, false, false, false, false, false, false, false, false, false, false, false, false, false, false, false] rfl rfl (any_of HT_.out (by kernel_rfl)) (fun _ _ _ h => h) (Or.inl ⟨by rfl, ?_⟩) ?_ ?_
        rotate_left
        ·intro w'
         go_simp
         with_reducible rfl
        rotate_left
        ·simp only [Act.put, List.setIfInBounds_toArray, List.set_cons_zero, List.set_cons_succ, i64_w, i32_w]
         rfl
        refine pure_ (i := 6) (N := some 78) (v := ?_) (a' := ?_) #[true, true, true, true, true, true, true, false, false, false, false, false, false, false, false, false, false, false, false, false, false, false, false, false, false, false, false, false, false, false, false, false] rfl rfl (any_of HT_.out (by kernel_rfl)) (fun _ _ _ h => h) (Or.inl ⟨by rfl, ?_⟩) ?_ ?_
        rotate_left
        ·intro w'
         go_simp
         with_reducible rfl
        rotate_left
        ·simp only [Act.put, List.setIfInBounds_toArray, List.set_cons_zero, List.set_cons_succ, i64_w, i32_w]
         rfl
        refine pure_ (i := 7) (N := some 79) (v := ?_) (a' := ?_) #[true, true, true, true, true, true, true, true, false, false, false, false, false, false, false, false, false, false, false, false, false, false, false, false, false, false, false, false, false, false, false, false] rfl rfl (any_of HT_.out (by kernel_rfl)) (fun _ _ _ h => h) (Or.inl ⟨by rfl, ?_⟩) ?_ ?_
        rotate_left
        ·intro w'
         go_simp
         with_reducible rfl
        rotate_left
        ·simp only [Act.put, List.setIfInBounds_toArray, List.set_cons_zero, List.set_cons_succ, i64_w, i32_w]
         rfl
        refine pure_ (i := 8) (N := some 80) (v := ?_) (a' := ?_) #[true, true, true, true, true, true, true, true, true, false, false, false, false, false, false, false, false, false, false, false, false, false, false, false, false, false, false, false, false, false, false, false] rfl rfl (any_of HT_.out (by kernel_rfl)) (fun _ _ _ h => h) (Or.inl ⟨by rfl, ?_⟩) ?_ ?_
        rotate_left
        ·intro w'
         go_simp
         with_reducible rfl
        rotate_left
        ·simp only [Act.put, List.setIfInBounds_toArray, List.set_cons_zero, List.set_cons_succ, i64_w, i32_w]
         rfl
        refine pure_ (i := 9) (N := some 81) (v := ?_) (a' := ?_) #[true, true, true, true, true, true, true, true, true, true, false, false, false, false, false, false, false, false, false, false, false, false, false, false, false, false, false, false, false, false, false, false] rfl rfl (any_of HT_.out (by kernel_rfl)) (fun _ _ _ h => h) (Or.inl ⟨by rfl, ?_⟩) ?_ ?_
        rotate_left
        ·intro w'
         go_simp
         with_reducible rfl
        rotate_left
        ·simp only [Act.put, List.setIfInBounds_toArray, List.set_cons_zero, List.set_cons_succ, i64_w, i32_w]
         rfl
        refine pure_ (i := 10) (N := some 82) (v := ?_) (a' := ?_) #[true, true, true, true, true, true, true, true, true, true, true, false, false, false, false, false, false, false, false, false, false, false, false, false, false, false, false, false, false, false, false, false] rfl rfl (any_of HT_.out (by kernel_rfl)) (fun _ _ _ h => h) (Or.inl ⟨by rfl, ?_⟩) ?_ ?_
        rotate_left
        ·intro w'
         go_simp
         with_reducible rfl
        rotate_left
        ·simp only [Act.put, List.setIfInBounds_toArray, List.set_cons_zero, List.set_cons_succ, i64_w, i32_w]
         rfl
        refine pure_ (i := 11) (N := some 83) (v := ?_) (a' := ?_) #[true, true, true, true, true, true, true, true, true, true, true, true, false, false, false, false, false, false, false, false, false, false, false, false, false, false, false, false, false, false, false, false] rfl rfl (any_of HT_.out (by kernel_rfl)) (fun _ _ _ h => h) (Or.inl ⟨by rfl, ?_⟩) ?_ ?_
        rotate_left
        ·intro w'
         go_simp
         with_reducible rfl
        rotate_left
        ·simp only [Act.put, List.setIfInBounds_toArray, List.set_cons_zero, List.set_cons_succ, i64_w, i32_w]
         rfl
        refine pure_ (i := 12) (N := some 84) (v := ?_) (a' := ?_) #[true, true, true, true, true, true, true, true, true, true, true, true, true, false, false, false, false, false, false, false, false, false, false, false, false, false, false, false, false, false, false, false] rfl rfl (any_of HT_.out (by kernel_rfl)) (fun _ _ _ h => h) (Or.inl ⟨by rfl, ?_⟩) ?_ ?_
        rotate_left
        ·intro w'
         go_simp
         with_reducible rfl
        rotate_left
        ·simp only [Act.put, List.setIfInBounds_toArray, List.set_cons_zero, List.set_cons_succ, i64_w, i32_w]
         rfl
        refine pure_ (i := 13) (N := some 85) (v := ?_) (a' := ?_) #[true, true, true, true, true, true, true, true, true, true, true, true, true, true, false, false, false, false, false, false, false, false, false, false, false, false, false, false, false, false, false, false] rfl rfl (any_of HT_.out (by kernel_rfl)) (fun _ _ _ h => h) (Or.inl ⟨by rfl, ?_⟩) ?_ ?_
        rotate_left
        ·intro w'
         go_simp
         with_reducible rfl
        rotate_left
        ·simp only [Act.put, List.setIfInBounds_toArray, List.set_cons_zero, List.set_cons_succ, i64_w, i32_w]
         rfl
        refine pure_ (i := 14) (N := some 86) (v := ?_) (a' := ?_) #[true, true, true, true, true, true, true, true, true, true, true, true, true, true, true, false, false, false, false, false, false, false, false, false, false, false, false, false, false, false, false, false] rfl rfl (any_of HT_.out (by kernel_rfl)) (fun _ _ _ h => h) (Or.inl ⟨by rfl, ?_⟩) ?_ ?_
        rotate_left
        ·intro w'
         go_simp
         with_reducible rfl
        rotate_left
        ·simp only [Act.put, List.setIfInBounds_toArray, List.set_cons_zero, List.set_cons_succ, i64_w, i32_w]
         rfl
        refine pure_ (i := 15) (N := some 87) (v := ?_) (a' := ?_) #[true, true, true, true, true, true, true, true, true, true, true, true, true, true, true, true, false, false, false, false, false, false, false, false, false, false, false, false, false, false, false, false] rfl rfl (any_of HT_.out (by kernel_rfl)) (fun _ _ _ h => h) (Or.inl ⟨by rfl, ?_⟩) ?_ ?_
        rotate_left
        ·intro w'
         go_simp
         with_reducible rfl
        rotate_left
        ·simp only [Act.put, List.setIfInBounds_toArray, List.set_cons_zero, List.set_cons_succ, i64_w, i32_w]
         rfl
        refine take_ (i := 16) (N := some 88) (v := ?_) (a' := ?_) #[true, true, true, true, true, true, true, true, true, true, true, true, true, true, true, true, true, false, false, false, false, false, false, false, false, false, false, false, false, false, false, false] rfl rfl (take_ofW HT_.out HW_.out (by kernel_rfl)) (fun _ _ _ h => h) (Or.inl ⟨by rfl, ?_⟩) hHeld ?_ ?_
        rotate_left
        ·rintro w' ⟨s0, s1, s2, s3, s4, s5, s6, s7, s8, s9, s10⟩
         go_simp
         with_reducible rfl
        rotate_left
        ·simp only [Act.put, List.setIfInBounds_toArray, List.set_cons_zero, List.set_cons_succ, i64_w, i32_w]
         rfl
        refine take_ (i := 18) (N := some 90) (v := ?_) (a' := ?_) #[true, true, true, true, true, true, true, true, true, true, true, true, true, true, true, true, true, false, true, false, false, false, false, false, false, false, false, false, false, false, false, false] rfl rfl (take_ofW HT_.out HW_.out (by kernel_rfl)) (fun _ _ _ h => h) (Or.inl ⟨by rfl, ?_⟩) hHeld ?_ ?_
        rotate_left
        ·rintro w' ⟨s0, s1, s2, s3, s4, s5, s6, s7, s8, s9, s10⟩
         go_simp
         with_reducible rfl
        rotate_left
        ·simp only [Act.put, List.setIfInBounds_toArray, List.set_cons_zero, List.set_cons_succ, i64_w, i32_w]
         rfl
        refine one_ (i := 17) (N := some 89) #[true, true, true, true, true, true, true, true, true, true, true, true, true, true, true, true, true, true, true, false, false, false, false, false, false, false, false, false, false, false, false, false] rfl rfl (one_of HT_.out (by kernel_rfl)) (by decide) (fun K hK => ?_)
        refine goes_ Tryd.func18 (by kernel_rfl) rfl #[.agg #[.string t466, .string t467, .int .i64 t468]] (by rfl) rfl rfl (by (try simp only [List.map_toArray, List.map_cons, List.map_nil]); first | done | rfl | (simp only [List.length_drop, List.length_take]; rfl)) ?_
        with_reducible refine (impl_IsValidLog.calls k t466 t467 t468 t492 _ ?side1 A81.out).mono ?_
        (case side1 => exact TabOK.below HT.out (by repeat (first | (with_reducible first | exact HB.out | apply ba_ | apply bn_ | apply bd_ | refine bset_ ?_ (by assumption)) | exact HB.out)))
        rintro e w101 ⟨rfl, hb⟩
        refine ⟨_, rfl, ?_⟩
        have n0_ := Aside0.mk (Kd.R_below (by (with_reducible repeat first | apply kA_ | apply kN_ | apply kD_); exact HO454.out) hb)
        have n1_ := Aside0.mk (Kd.R_below (by (with_reducible repeat first | apply kA_ | apply kN_ | apply kD_); exact HO465.out) hb)
        have n2_ := Aside0.mk (Kd.R_below (by (with_reducible repeat first | apply kA_ | apply kN_ | apply kD_); exact HO472.out) hb)
        have n3_ := Aside0.mk (blk_below (g := gb451) (o := .cells #[.string t449, .string t450] 25 (0, 0)) (by (with_reducible repeat first | apply bN_ | apply bD_ | apply bA_); exact BK451.out) hb)
        have n4_ := Aside0.mk (blk_below (g := gb458) (o := .cells #[.string t456, .string t457] 25 (0, 0)) (by (with_reducible repeat first | apply bN_ | apply bD_ | apply bA_); exact BK458.out) hb)
        have n5_ := Aside0.mk (blk_below (g := gb469) (o := .cells #[.string t466, .string t467, .int .i64 t468] 33 (0, 0)) (by (with_reducible repeat first | apply bN_ | apply bD_ | apply bA_); exact BK469.out) hb)
        have n6_ := Aside0.mk (blk_below (g := gb478) (o := .cells #[.string t473, .string t474, .int .i64 t475] 33 (0, 0)) (by (with_reducible repeat first | apply bN_ | apply bD_ | apply bA_); exact BK478.out) hb)
        have n7_ := Aside0.mk (blk_below (g := gb479) (o := .cells #[.string t476, .string t477] 25 (0, 0)) (by (with_reducible repeat first | apply bN_ | apply bD_ | apply bA_); exact BK479.out) hb)
        have n8_ := Aside0.mk (blk_below (g := gb484) (o := .cells #[.string t480, .string t481, .int .i64 t482] 33 (0, 0)) (by (with_reducible repeat first | apply bN_ | apply bD_ | apply bA_); exact BK484.out) hb)
        have n9_ := Aside0.mk (blk_below (g := gb489) (o := .cells #[.string t485, .string t486, .int .i64 t487] 33 (0, 0)) (by (with_reducible repeat first | apply bN_ | apply bD_ | apply bA_); exact BK489.out) hb)
        have n10_ := Aside0.mk (below_step (by repeat (first | (with_reducible first | exact HB.out | apply ba_ | apply bn_ | apply bd_ | refine bset_ ?_ (by assumption)) | exact HB.out)) hb)
        clear HO454
        clear HO465
        clear HO472
        clear BK451
        clear BK458
        clear BK469
        clear BK478
        clear BK479
        clear BK484
        clear BK489
        clear HB
        have HO454 := n0_
        have HO465 := n1_
        have HO472 := n2_
        have BK451 := n3_
        have BK458 := n4_
        have BK469 := n5_
        have BK478 := n6_
        have BK479 := n7_
        have BK484 := n8_
        have BK489 := n9_
        have HB := n10_
        clear n0_ n1_ n2_ n3_ n4_ n5_ n6_ n7_ n8_ n9_ n10_
        (try clear hb)
        (try clear hb2)
        (try clear hk)
        (try clear hi)
        refine hK.out _ _ ⟨(blk_cell BK451.out 0).trans rfl, (blk_cell BK451.out 1).trans rfl, (blk_cell BK469.out 0).trans rfl, (blk_cell BK469.out 1).trans rfl, (blk_cell BK469.out 2).trans rfl, (blk_cell BK484.out 0).trans rfl, (blk_cell BK484.out 1).trans rfl, (blk_cell BK484.out 2).trans rfl, (blk_cell BK489.out 0).trans rfl, (blk_cell BK489.out 1).trans rfl, (blk_cell BK489.out 2).trans rfl⟩ (fun hHeld => ?_)
        clear hK K
        refine norm_ (a' := ?_) ?_ ?_
        rotate_left
        ·show Act.put _ (some 89) _ = _
         simp only [Act.put, List.setIfInBounds_toArray, List.set_cons_zero, List.set_cons_succ, i64_w, i32_w]
         rfl
        refine one_ (i := 19) (N := some 91) #[true, true, true, true, true, true, true, true, true, true, true, true, true, true, true, true, true, true, true, true, false, false, false, false, false, false, false, false, false, false, false, false] rfl rfl (one_of HT_.out (by kernel_rfl)) (by decide) (fun K hK => ?_)
        refine goes_ Tryd.func19 (by kernel_rfl) rfl #[.agg #[.string t466, .string t467, .int .i64 t468]] (by rfl) rfl rfl (by (try simp only [List.map_toArray, List.map_cons, List.map_nil]); first | done | rfl | (simp only [List.length_drop, List.length_take]; rfl)) ?_
        with_reducible refine (spec_IsValidLog.calls k t466 t467 t468 t493 _ A82.out).mono ?_
        rintro e w102 ⟨rfl, hb⟩
        refine ⟨_, rfl, ?_⟩
        have n0_ := Aside0.mk (Kd.R_below (by (with_reducible repeat first | apply kA_ | apply kN_ | apply kD_); exact HO454.out) hb)
        have n1_ := Aside0.mk (Kd.R_below (by (with_reducible repeat first | apply kA_ | apply kN_ | apply kD_); exact HO465.out) hb)
        have n2_ := Aside0.mk (Kd.R_below (by (with_reducible repeat first | apply kA_ | apply kN_ | apply kD_); exact HO472.out) hb)
        have n3_ := Aside0.mk (blk_below (g := gb451) (o := .cells #[.string t449, .string t450] 25 (0, 0)) (by (with_reducible repeat first | apply bN_ | apply bD_ | apply bA_); exact BK451.out) hb)
        have n4_ := Aside0.mk (blk_below (g := gb458) (o := .cells #[.string t456, .string t457] 25 (0, 0)) (by (with_reducible repeat first | apply bN_ | apply bD_ | apply bA_); exact BK458.out) hb)
        have n5_ := Aside0.mk (blk_below (g := gb469) (o := .cells #[.string t466, .string t467, .int .i64 t468] 33 (0, 0)) (by (with_reducible repeat first | apply bN_ | apply bD_ | apply bA_); exact BK469.out) hb)
        have n6_ := Aside0.mk (blk_below (g := gb478) (o := .cells #[.string t473, .string t474, .int .i64 t475] 33 (0, 0)) (by (with_reducible repeat first | apply bN_ | apply bD_ | apply bA_); exact BK478.out) hb)
        have n7_ := Aside0.mk (blk_below (g := gb479) (o := .cells #[.string t476, .string t477] 25 (0, 0)) (by (with_reducible repeat first | apply bN_ | apply bD_ | apply bA_); exact BK479.out) hb)
        have n8_ := Aside0.mk (blk_below (g := gb484) (o := .cells #[.string t480, .string t481, .int .i64 t482] 33 (0, 0)) (by (with_reducible repeat first | apply bN_ | apply bD_ | apply bA_); exact BK484.out) hb)
        have n9_ := Aside0.mk (blk_below (g := gb489) (o := .cells #[.string t485, .string t486, .int .i64 t487] 33 (0, 0)) (by (with_reducible repeat first | apply bN_ | apply bD_ | apply bA_); exact BK489.out) hb)
        have n10_ := Aside0.mk (below_step (by repeat (first | (with_reducible first | exact HB.out | apply ba_ | apply bn_ | apply bd_ | refine bset_ ?_ (by assumption)) | exact HB.out)) hb)
        clear HO454
        clear HO465
        clear HO472
        clear BK451
        clear BK458
        clear BK469
        clear BK478
        clear BK479
        clear BK484
        clear BK489
        clear HB
        have HO454 := n0_
        have HO465 := n1_
        have HO472 := n2_
        have BK451 := n3_
        have BK458 := n4_
        have BK469 := n5_
        have BK478 := n6_
        have BK479 := n7_
        have BK484 := n8_
        have BK489 := n9_
        have HB := n10_
        clear n0_ n1_ n2_ n3_ n4_ n5_ n6_ n7_ n8_ n9_ n10_
        (try clear hb)
        (try clear hb2)
        (try clear hk)
        (try clear hi)
        refine hK.out _ _ ⟨(blk_cell BK451.out 0).trans rfl, (blk_cell BK451.out 1).trans rfl, (blk_cell BK469.out 0).trans rfl, (blk_cell BK469.out 1).trans rfl, (blk_cell BK469.out 2).trans rfl, (blk_cell BK484.out 0).trans rfl, (blk_cell BK484.out 1).trans rfl, (blk_cell BK484.out 2).trans rfl, (blk_cell BK489.out 0).trans rfl, (blk_cell BK489.out 1).trans rfl, (blk_cell BK489.out 2).trans rfl⟩ (fun hHeld => ?_)
        clear hK K
        refine norm_ (a' := ?_) ?_ ?_
        rotate_left
        ·show Act.put _ (some 91) _ = _
         simp only [Act.put, List.setIfInBounds_toArray, List.set_cons_zero, List.set_cons_succ, i64_w, i32_w]
         rfl
        refine pure_ (i := 20) (N := some 92) (v := ?_) (a' := ?_) #[true, true, true, true, true, true, true, true, true, true, true, true, true, true, true, true, true, true, true, true, true, false, false, false, false, false, false, false, false, false, false, false] rfl rfl (any_of HT_.out (by kernel_rfl)) (fun _ _ _ h => h) (Or.inl ⟨by rfl, ?_⟩) ?_ ?_
        rotate_left
        ·intro w'
         go_simp
         with_reducible rfl
        rotate_left
        ·simp only [Act.put, List.setIfInBounds_toArray, List.set_cons_zero, List.set_cons_succ, i64_w, i32_w]
         rfl
        refine pure_ (i := 21) (N := some 93) (v := ?_) (a' := ?_) #[true, true, true, true, true, true, true, true, true, true, true, true, true, true, true, true, true, true, true, true, true, true, false, false, false, false, false, false, false, false, false, false] rfl rfl (any_of HT_.out (by kernel_rfl)) (fun _ _ _ h => h) (Or.inl ⟨by rfl, ?_⟩) ?_ ?_
        rotate_left
        ·intro w'
         go_simp
         with_reducible rfl
        rotate_left
        ·simp only [Act.put, List.setIfInBounds_toArray, List.set_cons_zero, List.set_cons_succ, i64_w, i32_w]
         rfl
        refine pure_ (i := 22) (N := some 94) (v := ?_) (a' := ?_) #[true, true, true, true, true, true, true, true, true, true, true, true, true, true, true, true, true, true, true, true, true, true, true, false, false, false, false, false, false, false, false, false] rfl rfl (any_of HT_.out (by kernel_rfl)) (fun _ _ _ h => h) (Or.inl ⟨by rfl, ?_⟩) ?_ ?_
        rotate_left
        ·intro w'
         go_simp
         with_reducible rfl
        rotate_left
        ·simp only [Act.put, List.setIfInBounds_toArray, List.set_cons_zero, List.set_cons_succ, i64_w, i32_w]
         rfl
        refine take_ (i := 23) (N := some 95) (v := ?_) (a' := ?_) #[true, true, true, true, true, true, true, true, true, true, true, true, true, true, true, true, true, true, true, true, true, true, true, true, false, false, false, false, false, false, false, false] rfl rfl (take_ofW HT_.out HW_.out (by kernel_rfl)) (fun _ _ _ h => h) (Or.inl ⟨by rfl, ?_⟩) hHeld ?_ ?_
        rotate_left
        ·rintro w' ⟨s0, s1, s2, s3, s4, s5, s6, s7, s8, s9, s10⟩
         go_simp
         with_reducible rfl
        rotate_left
        ·simp only [Act.put, List.setIfInBounds_toArray, List.set_cons_zero, List.set_cons_succ, i64_w, i32_w]
         rfl
        refine take_ (i := 24) (N := some 96) (v := ?_) (a' := ?_) #[true, true, true, true, true, true, true, true, true, true, true, true, true, true, true, true, true, true, true, true, true, true, true, true, true, false, false, false, false, false, false, false] rfl rfl (take_ofW HT_.out HW_.out (by kernel_rfl)) (fun _ _ _ h => h) (Or.inl ⟨by rfl, ?_⟩) hHeld ?_ ?_
        rotate_left
        ·rintro w' ⟨s0, s1, s2, s3, s4, s5, s6, s7, s8, s9, s10⟩
         go_simp
         with_reducible rfl
        rotate_left
        ·simp only [Act.put, List.setIfInBounds_toArray, List.set_cons_zero, List.set_cons_succ, i64_w, i32_w]
         rfl
        refine pure_ (i := 25) (N := some 97) (v := ?_) (a' := ?_) #[true, true, true, true, true, true, true, true, true, true, true, true, true, true, true, true, true, true, true, true, true, true, true, true, true, true, false, false, false, false, false, false] rfl rfl (any_of HT_.out (by kernel_rfl)) (fun _ _ _ h => h) (Or.inl ⟨by rfl, ?_⟩) ?_ ?_
        rotate_left
        ·intro w'
         go_simp
         with_reducible rfl
        rotate_left
        ·simp only [Act.put, List.setIfInBounds_toArray, List.set_cons_zero, List.set_cons_succ, i64_w, i32_w]
         rfl
        refine pure_ (i := 26) (N := some 98) (v := ?_) (a' := ?_) #[true, true, true, true, true, true, true, true, true, true, true, true, true, true, true, true, true, true, true, true, true, true, true, true, true, true, true, false, false, false, false, false] rfl rfl (any_of HT_.out (by kernel_rfl)) (fun _ _ _ h => h) (Or.inl ⟨by rfl, ?_⟩) ?_ ?_
        rotate_left
        ·intro w'
         go_simp
         with_reducible rfl
        rotate_left
        ·simp only [Act.put, List.setIfInBounds_toArray, List.set_cons_zero, List.set_cons_succ, i64_w, i32_w]
         rfl
        refine pure_ (i := 27) (N := some 99) (v := ?_) (a' := ?_) #[true, true, true, true, true, true, true, true, true, true, true, true, true, true, true, true, true, true, true, true, true, true, true, true, true, true, true, true, false, false, false, false] rfl rfl (any_of HT_.out (by kernel_rfl)) (fun _ _ _ h => h) (Or.inl ⟨by rfl, ?_⟩) ?_ ?_
        rotate_left
        ·intro w'
         go_simp
         with_reducible rfl
        rotate_left
        ·simp only [Act.put, List.setIfInBounds_toArray, List.set_cons_zero, List.set_cons_succ, i64_w, i32_w]
         rfl
        refine pure_ (i := 28) (N := some 100) (v := ?_) (a' := ?_) #[true, true, true, true, true, true, true, true, true, true, true, true, true, true, true, true, true, true, true, true, true, true, true, true, true, true, true, true, true, false, false, false] rfl rfl (any_of HT_.out (by kernel_rfl)) (fun _ _ _ h => h) (Or.inl ⟨by rfl, ?_⟩) ?_ ?_
        rotate_left
        ·intro w'
         go_simp
         with_reducible rfl
        rotate_left
        ·simp only [Act.put, List.setIfInBounds_toArray, List.set_cons_zero, List.set_cons_succ, i64_w, i32_w]
         rfl
        refine pure_ (i := 29) (N := some 101) (v := ?_) (a' := ?_) #[true, true, true, true, true, true, true, true, true, true, true, true, true, true, true, true, true, true, true, true, true, true, true, true, true, true, true, true, true, true, false, false] rfl rfl (any_of HT_.out (by kernel_rfl)) (fun _ _ _ h => h) (Or.inl ⟨by rfl, ?_⟩) ?_ ?_
        rotate_left
        ·intro w'
         go_simp
         with_reducible rfl
        rotate_left
        ·simp only [Act.put, List.setIfInBounds_toArray, List.set_cons_zero, List.set_cons_succ, i64_w, i32_w]
         rfl
        refine pure_ (i := 30) (N := some 102) (v := ?_) (a' := ?_) #[true, true, true, true, true, true, true, true, true, true, true, true, true, true, true, true, true, true, true, true, true, true, true, true, true, true, true, true, true, true, true, false] rfl rfl (any_of HT_.out (by kernel_rfl)) (fun _ _ _ h => h) (Or.inl ⟨by rfl, ?_⟩) ?_ ?_
        rotate_left
        ·intro w'
         go_simp
         with_reducible rfl
        rotate_left
        ·simp only [Act.put, List.setIfInBounds_toArray, List.set_cons_zero, List.set_cons_succ, i64_w, i32_w]
         rfl
        refine pure_ (i := 31) (N := some 103) (v := ?_) (a' := ?_) #[true, true, true, true, true, true, true, true, true, true, true, true, true, true, true, true, true, true, true, true, true, true, true, true, true, true, true, true, true, true, true, true] rfl rfl (any_of HT_.out (by kernel_rfl)) (fun _ _ _ h => h) (Or.inl ⟨by rfl, ?_⟩) ?_ ?_
        rotate_left
        ·intro w'
         go_simp
         with_reducible rfl
        rotate_left
        ·simp only [Act.put, List.setIfInBounds_toArray, List.set_cons_zero, List.set_cons_succ, i64_w, i32_w]
         rfl
        refine done_ (done_of HT_.out (by kernel_rfl)) ?_
        try go_wp2
        go_meet
        case rel => exact ⟨_, ((t483 != t488)), (by first | rfl | (simp; done) | (simp [*]; done)), H', ⟨by first | omega | exact Nat.le_refl _⟩, ⟨by (with_reducible repeat first | apply bN_ | apply bD_ | apply bA_); exact BK451.out⟩, ⟨by (with_reducible repeat first | apply bN_ | apply bD_ | apply bA_); exact BK458.out⟩, ⟨by (with_reducible repeat first | apply bN_ | apply bD_ | apply bA_); exact BK469.out⟩, ⟨by (with_reducible repeat first | apply bN_ | apply bD_ | apply bA_); exact BK478.out⟩, ⟨by (with_reducible repeat first | apply bN_ | apply bD_ | apply bA_); exact BK479.out⟩, ⟨by (with_reducible repeat first | apply bN_ | apply bD_ | apply bA_); exact BK484.out⟩, ⟨by (with_reducible repeat first | apply bN_ | apply bD_ | apply bA_); exact BK489.out⟩, ⟨by repeat (first | (with_reducible first | exact HB.out | apply ba_ | apply bn_ | apply bd_ | refine bset_ ?_ (by assumption)) | exact HB.out)⟩⟩
    ·rw [if_neg c75] at H
     have c75b0 : (t459.toList == t461.toList) = false := beq_eq_false_iff_ne.mpr c75
     have c75b1 : (t459.toList != t461.toList) = true := bne_iff_ne.mpr c75
     exact absurd (H.trans (congrArg some hyes)) (laws_FnLogs.j0_no _ _ _ _ _ _ _ _ _ _)
  case rest =>
   clear HC15
   try clear c1
   try clear p2
   try clear c7
   try clear c16
   try clear c17
   try clear c18
   try clear c19
   try clear c75
   try clear c75b0
   try clear c75b1
   obtain ⟨kq, x103_14, rfl, HA, HJ14, BK451, BK458, BK469, BK478, BK479, BK484, BK489, HB⟩ := hcut
   cases kq with
   | zero => exact absurd HA.out (by simp [laws_FnLogs.j0])
   | succ kj14 =>
    have H := HA.out
    clear HA
    simp only [laws_FnLogs.j0] at H
    by_cases c107 : x103_14 = true
    ·subst c107
     rw [if_pos rfl] at H
     exact absurd ((Option.some.inj H).trans hyes) (by decide)
    ·replace c107 := Bool.eq_false_iff.mpr c107
     subst c107
     rw [if_neg (show ¬ (false = true) by decide)] at H
     replace H := Option.bind_eq_some_iff.mp H
     obtain ⟨⟨t494, t495, t496, t497⟩, A1080, H⟩ := H
     try dsimp only at H
     have A108 := Aside0.mk A1080
     clear A1080
     replace H := Option.bind_eq_some_iff.mp H
     obtain ⟨⟨t499, t500, t501, t502⟩, A1090, H⟩ := H
     try dsimp only at H
     have A109 := Aside0.mk A1090
     clear A1090
     replace H := Option.bind_eq_some_iff.mp H
     obtain ⟨⟨t504, t507⟩, A1100, H⟩ := H
     try dsimp only at H
     have A110 := Aside0.mk A1100
     clear A1100
     replace H := Option.bind_eq_some_iff.mp H
     obtain ⟨⟨t508, t511⟩, A1110, H⟩ := H
     try dsimp only at H
     have A111 := Aside0.mk A1110
     clear A1110
     have HC112 := Aside0.mk H
     clear H
     have hnb113 := NB478_451.out
     have hnc113 := NB451_478.out
     have hnb114 := NB478_458.out
     have hnc114 := NB458_478.out
     have hnb115 := NB478_469.out
     have hnc115 := NB469_478.out
     have hnb116 := NB478_479.out
     have hnc116 := NB479_478.out
     have hnb117 := NB478_484.out
     have hnc117 := NB484_478.out
     have hnb118 := NB478_489.out
     have hnc118 := NB489_478.out
     have hcz119_0 : wc.cell? ⟨gb478, 0, none⟩ = some (.string t473) := (blk_cell BK478.out 0).trans rfl
     have hcz119_1 : wc.cell? ⟨gb478, 1, none⟩ = some (.string t474) := (blk_cell BK478.out 1).trans rfl
     have hcz119_2 : wc.cell? ⟨gb478, 2, none⟩ = some (.int .i64 t475) := (blk_cell BK478.out 2).trans rfl
     have hfz119_0 := blk_frozen BK478.out 0
     have hfz119_1 := blk_frozen BK478.out 1
     have hfz119_2 := blk_frozen BK478.out 2
     go_upto_region 17 with (first | ((with_reducible refine gate_callee (f := 20) rfl ?_); refine goesL_ (some 106) rfl rfl Tryd.func20 (by kernel_rfl) rfl #[.agg #[.string t473, .string t474, .int .i64 t475]] rfl (by (try simp only [List.map_toArray, List.map_cons, List.map_nil]); first | done | rfl | (simp only [List.length_drop, List.length_take]; rfl)) ?_; (with_reducible refine (impl_SyncLog.calls kj14 t473 t474 t475 t494 t495 t496 t497 _ ?side1 A108.out).mono ?_); (case side1 => exact TabOK.below HT.out (by repeat (first | (with_reducible first | exact HB.out | apply ba_ | apply bn_ | apply bd_ | refine bset_ ?_ (by assumption)) | exact HB.out))); rintro e w120 ⟨rfl, hb⟩; refine ⟨_, rfl, ?_⟩; have n0_ := Aside0.mk (blk_below (g := gb451) (o := .cells #[.string t449, .string t450] 25 (0, 0)) (by (with_reducible repeat first | apply bN_ | apply bD_ | apply bA_); exact BK451.out) hb); have n1_ := Aside0.mk (blk_below (g := gb458) (o := .cells #[.string t456, .string t457] 25 (0, 0)) (by (with_reducible repeat first | apply bN_ | apply bD_ | apply bA_); exact BK458.out) hb); have n2_ := Aside0.mk (blk_below (g := gb469) (o := .cells #[.string t466, .string t467, .int .i64 t468] 33 (0, 0)) (by (with_reducible repeat first | apply bN_ | apply bD_ | apply bA_); exact BK469.out) hb); have n3_ := Aside0.mk (blk_below (g := gb478) (o := .cells #[.string t473, .string t474, .int .i64 t475] 33 (0, 0)) (by (with_reducible repeat first | apply bN_ | apply bD_ | apply bA_); exact BK478.out) hb); have n4_ := Aside0.mk (blk_below (g := gb479) (o := .cells #[.string t476, .string t477] 25 (0, 0)) (by (with_reducible repeat first | apply bN_ | apply bD_ | apply bA_); exact BK479.out) hb); have n5_ := Aside0.mk (blk_below (g := gb484) (o := .cells #[.string t480, .string t481, .int .i64 t482] 33 (0, 0)) (by (with_reducible repeat first | apply bN_ | apply bD_ | apply bA_); exact BK484.out) hb); have n6_ := Aside0.mk (blk_below (g := gb489) (o := .cells #[.string t485, .string t486, .int .i64 t487] 33 (0, 0)) (by (with_reducible repeat first | apply bN_ | apply bD_ | apply bA_); exact BK489.out) hb); have n7_ := Aside0.mk (below_step (by repeat (first | (with_reducible first | exact HB.out | apply ba_ | apply bn_ | apply bd_ | refine bset_ ?_ (by assumption)) | exact HB.out)) hb); clear BK451; clear BK458; clear BK469; clear BK478; clear BK479; clear BK484; clear BK489; clear HB; have BK451 := n0_; have BK458 := n1_; have BK469 := n2_; have BK478 := n3_; have BK479 := n4_; have BK484 := n5_; have BK489 := n6_; have HB := n7_; clear n0_ n1_ n2_ n3_ n4_ n5_ n6_ n7_; (try clear hb); (try clear hb2); (try clear hk); (try clear hi)) | ((with_reducible refine gate_dst (N := 17) rfl ?_); (try (refine gate_guard (by rfl) ?_; dsimp only)); refine box_event ?hg (N := 17) ?hd (cs := #[.string (⟨#[]⟩ : ByteArray), .string (⟨#[]⟩ : ByteArray), .int .i64 0]) (t := 33) ?hr ?_; (case hd => rfl); (case hg => rfl); (case hr => first | (go_simp; done) | (go_simp; rfl)); intro gb498 hg w121 hbox hb; have n0_ := Aside0.mk (blk_below (g := gb451) (o := .cells #[.string t449, .string t450] 25 (0, 0)) (by (with_reducible repeat first | apply bN_ | apply bD_ | apply bA_); exact BK451.out) hb); have n1_ := Aside0.mk (blk_below (g := gb458) (o := .cells #[.string t456, .string t457] 25 (0, 0)) (by (with_reducible repeat first | apply bN_ | apply bD_ | apply bA_); exact BK458.out) hb); have n2_ := Aside0.mk (blk_below (g := gb469) (o := .cells #[.string t466, .string t467, .int .i64 t468] 33 (0, 0)) (by (with_reducible repeat first | apply bN_ | apply bD_ | apply bA_); exact BK469.out) hb); have n3_ := Aside0.mk (blk_below (g := gb478) (o := .cells #[.string t473, .string t474, .int .i64 t475] 33 (0, 0)) (by (with_reducible repeat first | apply bN_ | apply bD_ | apply bA_); exact BK478.out) hb); have n4_ := Aside0.mk (blk_below (g := gb479) (o := .cells #[.string t476, .string t477] 25 (0, 0)) (by (with_reducible repeat first | apply bN_ | apply bD_ | apply bA_); exact BK479.out) hb); have n5_ := Aside0.mk (blk_below (g := gb484) (o := .cells #[.string t480, .string t481, .int .i64 t482] 33 (0, 0)) (by (with_reducible repeat first | apply bN_ | apply bD_ | apply bA_); exact BK484.out) hb); have n6_ := Aside0.mk (blk_below (g := gb489) (o := .cells #[.string t485, .string t486, .int .i64 t487] 33 (0, 0)) (by (with_reducible repeat first | apply bN_ | apply bD_ | apply bA_); exact BK489.out) hb); have n7_ := Aside0.mk (below_step (by repeat (first | (with_reducible first | exact HB.out | apply ba_ | apply bn_ | apply bd_ | refine bset_ ?_ (by assumption)) | exact HB.out)) hb); have n8_ := Aside0.mk (hbox); have n9_ := Aside0.mk ((by rw [hg]; exact (below_size (by repeat (first | (with_reducible first | exact HB.out | apply ba_ | apply bn_ | apply bd_ | refine bset_ ?_ (by assumption)) | exact HB.out))) : w.heap.size ≤ gb498)); have n10_ := Aside0.mk ((by rw [hg]; exact (below_size (by repeat (first | (with_reducible first | exact HB.out | apply ba_ | apply bn_ | apply bd_ | refine bset_ ?_ (by assumption)) | exact HB.out))) : w.heap.size ≤ gb498)); have n11_ := Aside0.mk ((by rw [hg]; exact Nat.ne_of_lt (blk_lt (g := gb451) (o := .cells #[.string t449, .string t450] 25 (0, 0)) (by (with_reducible repeat first | apply bN_ | apply bD_ | apply bA_); exact BK451.out)) : gb451 ≠ gb498)); have n12_ := Aside0.mk ((by rw [hg]; exact Nat.ne_of_gt (blk_lt (g := gb451) (o := .cells #[.string t449, .string t450] 25 (0, 0)) (by (with_reducible repeat first | apply bN_ | apply bD_ | apply bA_); exact BK451.out)) : gb498 ≠ gb451)); have n13_ := Aside0.mk ((by rw [hg]; exact Nat.ne_of_lt (blk_lt (g := gb458) (o := .cells #[.string t456, .string t457] 25 (0, 0)) (by (with_reducible repeat first | apply bN_ | apply bD_ | apply bA_); exact BK458.out)) : gb458 ≠ gb498)); have n14_ := Aside0.mk ((by rw [hg]; exact Nat.ne_of_gt (blk_lt (g := gb458) (o := .cells #[.string t456, .string t457] 25 (0, 0)) (by (with_reducible repeat first | apply bN_ | apply bD_ | apply bA_); exact BK458.out)) : gb498 ≠ gb458)); have n15_ := Aside0.mk ((by rw [hg]; exact Nat.ne_of_lt (blk_lt (g := gb469) (o := .cells #[.string t466, .string t467, .int .i64 t468] 33 (0, 0)) (by (with_reducible repeat first | apply bN_ | apply bD_ | apply bA_); exact BK469.out)) : gb469 ≠ gb498)); have n16_ := Aside0.mk ((by rw [hg]; exact Nat.ne_of_gt (blk_lt (g := gb469) (o := .cells #[.string t466, .string t467, .int .i64 t468] 33 (0, 0)) (by (with_reducible repeat first | apply bN_ | apply bD_ | apply bA_); exact BK469.out)) : gb498 ≠ gb469)); have n17_ := Aside0.mk ((by rw [hg]; exact Nat.ne_of_lt (blk_lt (g := gb478) (o := .cells #[.string t473, .string t474, .int .i64 t475] 33 (0, 0)) (by (with_reducible repeat first | apply bN_ | apply bD_ | apply bA_); exact BK478.out)) : gb478 ≠ gb498)); have n18_ := Aside0.mk ((by rw [hg]; exact Nat.ne_of_gt (blk_lt (g := gb478) (o := .cells #[.string t473, .string t474, .int .i64 t475] 33 (0, 0)) (by (with_reducible repeat first | apply bN_ | apply bD_ | apply bA_); exact BK478.out)) : gb498 ≠ gb478)); have n19_ := Aside0.mk ((by rw [hg]; exact Nat.ne_of_lt (blk_lt (g := gb479) (o := .cells #[.string t476, .string t477] 25 (0, 0)) (by (with_reducible repeat first | apply bN_ | apply bD_ | apply bA_); exact BK479.out)) : gb479 ≠ gb498)); have n20_ := Aside0.mk ((by rw [hg]; exact Nat.ne_of_gt (blk_lt (g := gb479) (o := .cells #[.string t476, .string t477] 25 (0, 0)) (by (with_reducible repeat first | apply bN_ | apply bD_ | apply bA_); exact BK479.out)) : gb498 ≠ gb479)); have n21_ := Aside0.mk ((by rw [hg]; exact Nat.ne_of_lt (blk_lt (g := gb484) (o := .cells #[.string t480, .string t481, .int .i64 t482] 33 (0, 0)) (by (with_reducible repeat first | apply bN_ | apply bD_ | apply bA_); exact BK484.out)) : gb484 ≠ gb498)); have n22_ := Aside0.mk ((by rw [hg]; exact Nat.ne_of_gt (blk_lt (g := gb484) (o := .cells #[.string t480, .string t481, .int .i64 t482] 33 (0, 0)) (by (with_reducible repeat first | apply bN_ | apply bD_ | apply bA_); exact BK484.out)) : gb498 ≠ gb484)); have n23_ := Aside0.mk ((by rw [hg]; exact Nat.ne_of_lt (blk_lt (g := gb489) (o := .cells #[.string t485, .string t486, .int .i64 t487] 33 (0, 0)) (by (with_reducible repeat first | apply bN_ | apply bD_ | apply bA_); exact BK489.out)) : gb489 ≠ gb498)); have n24_ := Aside0.mk ((by rw [hg]; exact Nat.ne_of_gt (blk_lt (g := gb489) (o := .cells #[.string t485, .string t486, .int .i64 t487] 33 (0, 0)) (by (with_reducible repeat first | apply bN_ | apply bD_ | apply bA_); exact BK489.out)) : gb498 ≠ gb489)); clear BK451; clear BK458; clear BK469; clear BK478; clear BK479; clear BK484; clear BK489; clear HB; have BK451 := n0_; have BK458 := n1_; have BK469 := n2_; have BK478 := n3_; have BK479 := n4_; have BK484 := n5_; have BK489 := n6_; have HB := n7_; have BK498 := n8_; have GW498 := n9_; have GE498 := n10_; have NB451_498 := n11_; have NB498_451 := n12_; have NB458_498 := n13_; have NB498_458 := n14_; have NB469_498 := n15_; have NB498_469 := n16_; have NB478_498 := n17_; have NB498_478 := n18_; have NB479_498 := n19_; have NB498_479 := n20_; have NB484_498 := n21_; have NB498_484 := n22_; have NB489_498 := n23_; have NB498_489 := n24_; clear n0_ n1_ n2_ n3_ n4_ n5_ n6_ n7_ n8_ n9_ n10_ n11_ n12_ n13_ n14_ n15_ n16_ n17_ n18_ n19_ n20_ n21_ n22_ n23_ n24_; clear hb hbox hg; have hnb122 := NB498_451.out; have hnc122 := NB451_498.out; have hnb123 := NB498_458.out; have hnc123 := NB458_498.out; have hnb124 := NB498_469.out; have hnc124 := NB469_498.out; have hnb125 := NB498_478.out; have hnc125 := NB478_498.out; have hnb126 := NB498_479.out; have hnc126 := NB479_498.out; have hnb127 := NB498_484.out; have hnc127 := NB484_498.out; have hnb128 := NB498_489.out; have hnc128 := NB489_498.out; have hcz129_0 : w121.cell? ⟨gb498, 0, none⟩ = some (.string (⟨#[]⟩ : ByteArray)) := (blk_cell BK498.out 0).trans rfl; have hcz129_1 : w121.cell? ⟨gb498, 1, none⟩ = some (.string (⟨#[]⟩ : ByteArray)) := (blk_cell BK498.out 1).trans rfl; have hcz129_2 : w121.cell? ⟨gb498, 2, none⟩ = some (.int .i64 0) := (blk_cell BK498.out 2).trans rfl; have hfz129_0 := blk_frozen BK498.out 0; have hfz129_1 := blk_frozen BK498.out 1; have hfz129_2 := blk_frozen BK498.out 2; have hcz130_0 : w121.cell? ⟨gb478, 0, none⟩ = some (.string t473) := (blk_cell BK478.out 0).trans rfl; have hcz130_1 : w121.cell? ⟨gb478, 1, none⟩ = some (.string t474) := (blk_cell BK478.out 1).trans rfl; have hcz130_2 : w121.cell? ⟨gb478, 2, none⟩ = some (.int .i64 t475) := (blk_cell BK478.out 2).trans rfl; have hfz130_0 := blk_frozen BK478.out 0; have hfz130_1 := blk_frozen BK478.out 1; have hfz130_2 := blk_frozen BK478.out 2) | ((with_reducible refine gate_callee (f := 21) rfl ?_); refine goesL_ (some 111) rfl rfl Tryd.func21 (by kernel_rfl) rfl #[.agg #[.string t473, .string t474, .int .i64 t475]] rfl (by (try simp only [List.map_toArray, List.map_cons, List.map_nil]); first | done | rfl | (simp only [List.length_drop, List.length_take]; rfl)) ?_; (with_reducible refine (spec_SyncLog.calls kj14 t473 t474 t475 t499 t500 t501 t502 _ A109.out).mono ?_); rintro e w131 ⟨rfl, hb⟩; refine ⟨_, rfl, ?_⟩; have n0_ := Aside0.mk (blk_below (g := gb451) (o := .cells #[.string t449, .string t450] 25 (0, 0)) (by (with_reducible repeat first | apply bN_ | apply bD_ | apply bA_); refine blk_far ?_ NB451_498.out _; (with_reducible repeat first | apply bN_ | apply bD_ | apply bA_); refine blk_far ?_ NB451_498.out _; (with_reducible repeat first | apply bN_ | apply bD_ | apply bA_); refine blk_far ?_ NB451_498.out _; (with_reducible repeat first | apply bN_ | apply bD_ | apply bA_); exact BK451.out) hb); have n1_ := Aside0.mk (blk_below (g := gb458) (o := .cells #[.string t456, .string t457] 25 (0, 0)) (by (with_reducible repeat first | apply bN_ | apply bD_ | apply bA_); refine blk_far ?_ NB458_498.out _; (with_reducible repeat first | apply bN_ | apply bD_ | apply bA_); refine blk_far ?_ NB458_498.out _; (with_reducible repeat first | apply bN_ | apply bD_ | apply bA_); refine blk_far ?_ NB458_498.out _; (with_reducible repeat first | apply bN_ | apply bD_ | apply bA_); exact BK458.out) hb); have n2_ := Aside0.mk (blk_below (g := gb469) (o := .cells #[.string t466, .string t467, .int .i64 t468] 33 (0, 0)) (by (with_reducible repeat first | apply bN_ | apply bD_ | apply bA_); refine blk_far ?_ NB469_498.out _; (with_reducible repeat first | apply bN_ | apply bD_ | apply bA_); refine blk_far ?_ NB469_498.out _; (with_reducible repeat first | apply bN_ | apply bD_ | apply bA_); refine blk_far ?_ NB469_498.out _; (with_reducible repeat first | apply bN_ | apply bD_ | apply bA_); exact BK469.out) hb); have n3_ := Aside0.mk (blk_below (g := gb478) (o := .cells #[.string t473, .string t474, .int .i64 t475] 33 (0, 0)) (by (with_reducible repeat first | apply bN_ | apply bD_ | apply bA_); refine blk_far ?_ NB478_498.out _; (with_reducible repeat first | apply bN_ | apply bD_ | apply bA_); refine blk_far ?_ NB478_498.out _; (with_reducible repeat first | apply bN_ | apply bD_ | apply bA_); refine blk_far ?_ NB478_498.out _; (with_reducible repeat first | apply bN_ | apply bD_ | apply bA_); exact BK478.out) hb); have n4_ := Aside0.mk (blk_below (g := gb479) (o := .cells #[.string t476, .string t477] 25 (0, 0)) (by (with_reducible repeat first | apply bN_ | apply bD_ | apply bA_); refine blk_far ?_ NB479_498.out _; (with_reducible repeat first | apply bN_ | apply bD_ | apply bA_); refine blk_far ?_ NB479_498.out _; (with_reducible repeat first | apply bN_ | apply bD_ | apply bA_); refine blk_far ?_ NB479_498.out _; (with_reducible repeat first | apply bN_ | apply bD_ | apply bA_); exact BK479.out) hb); have n5_ := Aside0.mk (blk_below (g := gb484) (o := .cells #[.string t480, .string t481, .int .i64 t482] 33 (0, 0)) (by (with_reducible repeat first | apply bN_ | apply bD_ | apply bA_); refine blk_far ?_ NB484_498.out _; (with_reducible repeat first | apply bN_ | apply bD_ | apply bA_); refine blk_far ?_ NB484_498.out _; (with_reducible repeat first | apply bN_ | apply bD_ | apply bA_); refine blk_far ?_ NB484_498.out _; (with_reducible repeat first | apply bN_ | apply bD_ | apply bA_); exact BK484.out) hb); have n6_ := Aside0.mk (blk_below (g := gb489) (o := .cells #[.string t485, .string t486, .int .i64 t487] 33 (0, 0)) (by (with_reducible repeat first | apply bN_ | apply bD_ | apply bA_); refine blk_far ?_ NB489_498.out _; (with_reducible repeat first | apply bN_ | apply bD_ | apply bA_); refine blk_far ?_ NB489_498.out _; (with_reducible repeat first | apply bN_ | apply bD_ | apply bA_); refine blk_far ?_ NB489_498.out _; (with_reducible repeat first | apply bN_ | apply bD_ | apply bA_); exact BK489.out) hb); have n7_ := Aside0.mk (blk_below (g := gb498) (o := .cells #[.string t494, .string t495, .int .i64 t496] 33 (0, 0)) (by (with_reducible repeat first | apply bN_ | apply bD_ | apply bA_); refine blk_put (cs := #[.string t494, .string t495, .int .i64 0]) ?_ 2 _ rfl; (with_reducible repeat first | apply bN_ | apply bD_ | apply bA_); refine blk_put (cs := #[.string t494, .string (⟨#[]⟩ : ByteArray), .int .i64 0]) ?_ 1 _ rfl; (with_reducible repeat first | apply bN_ | apply bD_ | apply bA_); refine blk_put (cs := #[.string (⟨#[]⟩ : ByteArray), .string (⟨#[]⟩ : ByteArray), .int .i64 0]) ?_ 0 _ rfl; (with_reducible repeat first | apply bN_ | apply bD_ | apply bA_); exact BK498.out) hb); have n8_ := Aside0.mk (below_step (by repeat (first | (with_reducible first | exact HB.out | apply ba_ | apply bn_ | apply bd_ | refine bset_ ?_ (by assumption)) | exact HB.out)) hb); clear BK451; clear BK458; clear BK469; clear BK478; clear BK479; clear BK484; clear BK489; clear BK498; clear HB; have BK451 := n0_; have BK458 := n1_; have BK469 := n2_; have BK478 := n3_; have BK479 := n4_; have BK484 := n5_; have BK489 := n6_; have BK498 := n7_; have HB := n8_; clear n0_ n1_ n2_ n3_ n4_ n5_ n6_ n7_ n8_; (try clear hb); (try clear hb2); (try clear hk); (try clear hi)) | ((with_reducible refine gate_dst (N := 19) rfl ?_); (try (refine gate_guard (by rfl) ?_; dsimp only)); refine box_event ?hg (N := 19) ?hd (cs := #[.string (⟨#[]⟩ : ByteArray), .string (⟨#[]⟩ : ByteArray), .int .i64 0]) (t := 33) ?hr ?_; (case hd => rfl); (case hg => rfl); (case hr => first | (go_simp; done) | (go_simp; rfl)); intro gb503 hg w132 hbox hb; have n0_ := Aside0.mk (blk_below (g := gb451) (o := .cells #[.string t449, .string t450] 25 (0, 0)) (by (with_reducible repeat first | apply bN_ | apply bD_ | apply bA_); exact BK451.out) hb); have n1_ := Aside0.mk (blk_below (g := gb458) (o := .cells #[.string t456, .string t457] 25 (0, 0)) (by (with_reducible repeat first | apply bN_ | apply bD_ | apply bA_); exact BK458.out) hb); have n2_ := Aside0.mk (blk_below (g := gb469) (o := .cells #[.string t466, .string t467, .int .i64 t468] 33 (0, 0)) (by (with_reducible repeat first | apply bN_ | apply bD_ | apply bA_); exact BK469.out) hb); have n3_ := Aside0.mk (blk_below (g := gb478) (o := .cells #[.string t473, .string t474, .int .i64 t475] 33 (0, 0)) (by (with_reducible repeat first | apply bN_ | apply bD_ | apply bA_); exact BK478.out) hb); have n4_ := Aside0.mk (blk_below (g := gb479) (o := .cells #[.string t476, .string t477] 25 (0, 0)) (by (with_reducible repeat first | apply bN_ | apply bD_ | apply bA_); exact BK479.out) hb); have n5_ := Aside0.mk (blk_below (g := gb484) (o := .cells #[.string t480, .string t481, .int .i64 t482] 33 (0, 0)) (by (with_reducible repeat first | apply bN_ | apply bD_ | apply bA_); exact BK484.out) hb); have n6_ := Aside0.mk (blk_below (g := gb489) (o := .cells #[.string t485, .string t486, .int .i64 t487] 33 (0, 0)) (by (with_reducible repeat first | apply bN_ | apply bD_ | apply bA_); exact BK489.out) hb); have n7_ := Aside0.mk (blk_below (g := gb498) (o := .cells #[.string t494, .string t495, .int .i64 t496] 33 (0, 0)) (by (with_reducible repeat first | apply bN_ | apply bD_ | apply bA_); exact BK498.out) hb); have n8_ := Aside0.mk (below_step (by repeat (first | (with_reducible first | exact HB.out | apply ba_ | apply bn_ | apply bd_ | refine bset_ ?_ (by assumption)) | exact HB.out)) hb); have n9_ := Aside0.mk (hbox); have n10_ := Aside0.mk ((by rw [hg]; exact (below_size (by repeat (first | (with_reducible first | exact HB.out | apply ba_ | apply bn_ | apply bd_ | refine bset_ ?_ (by assumption)) | exact HB.out))) : w.heap.size ≤ gb503)); have n11_ := Aside0.mk ((by rw [hg]; exact (below_size (by repeat (first | (with_reducible first | exact HB.out | apply ba_ | apply bn_ | apply bd_ | refine bset_ ?_ (by assumption)) | exact HB.out))) : w.heap.size ≤ gb503)); have n12_ := Aside0.mk ((by rw [hg]; exact Nat.ne_of_lt (blk_lt (g := gb451) (o := .cells #[.string t449, .string t450] 25 (0, 0)) (by (with_reducible repeat first | apply bN_ | apply bD_ | apply bA_); exact BK451.out)) : gb451 ≠ gb503)); have n13_ := Aside0.mk ((by rw [hg]; exact Nat.ne_of_gt (blk_lt (g := gb451) (o := .cells #[.string t449, .string t450] 25 (0, 0)) (by (with_reducible repeat first | apply bN_ | apply bD_ | apply bA_); exact BK451.out)) : gb503 ≠ gb451)); have n14_ := Aside0.mk ((by rw [hg]; exact Nat.ne_of_lt (blk_lt (g := gb458) (o := .cells #[.string t456, .string t457] 25 (0, 0)) (by (with_reducible repeat first | apply bN_ | apply bD_ | apply bA_); exact BK458.out)) : gb458 ≠ gb503)); have n15_ := Aside0.mk ((by rw [hg]; exact Nat.ne_of_gt (blk_lt (g := gb458) (o := .cells #[.string t456, .string t457] 25 (0, 0)) (by (with_reducible repeat first | apply bN_ | apply bD_ | apply bA_); exact BK458.out)) : gb503 ≠ gb458)); have n16_ := Aside0.mk ((by rw [hg]; exact Nat.ne_of_lt (blk_lt (g := gb469) (o := .cells #[.string t466, .string t467, .int .i64 t468] 33 (0, 0)) (by (with_reducible repeat first | apply bN_ | apply bD_ | apply bA_); exact BK469.out)) : gb469 ≠ gb503)); have n17_ := Aside0.mk ((by rw [hg]; exact Nat.ne_of_gt (blk_lt (g := gb469) (o := .cells #[.string t466, .string t467, .int .i64 t468] 33 (0, 0)) (by (with_reducible repeat first | apply bN_ | apply bD_ | apply bA_); exact BK469.out)) : gb503 ≠ gb469)); have n18_ := Aside0.mk ((by rw [hg]; exact Nat.ne_of_lt (blk_lt (g := gb478) (o := .cells #[.string t473, .string t474, .int .i64 t475] 33 (0, 0)) (by (with_reducible repeat first | apply bN_ | apply bD_ | apply bA_); exact BK478.out)) : gb478 ≠ gb503)); have n19_ := Aside0.mk ((by rw [hg]; exact Nat.ne_of_gt (blk_lt (g := gb478) (o := .cells #[.string t473, .string t474, .int .i64 t475] 33 (0, 0)) (by (with_reducible repeat first | apply bN_ | apply bD_ | apply bA_); exact BK478.out)) : gb503 ≠ gb478)); have n20_ := Aside0.mk ((by rw [hg]; exact Nat.ne_of_lt (blk_lt (g := gb479) (o := .cells #[.string t476, .string t477] 25 (0, 0)) (by (with_reducible repeat first | apply bN_ | apply bD_ | apply bA_); exact BK479.out)) : gb479 ≠ gb503)); have n21_ := Aside0.mk ((by rw [hg]; exact Nat.ne_of_gt (blk_lt (g := gb479) (o := .cells #[.string t476, .string t477] 25 (0, 0)) (by (with_reducible repeat first | apply bN_ | apply bD_ | apply bA_); exact BK479.out)) : gb503 ≠ gb479)); have n22_ := Aside0.mk ((by rw [hg]; exact Nat.ne_of_lt (blk_lt (g := gb484) (o := .cells #[.string t480, .string t481, .int .i64 t482] 33 (0, 0)) (by (with_reducible repeat first | apply bN_ | apply bD_ | apply bA_); exact BK484.out)) : gb484 ≠ gb503)); have n23_ := Aside0.mk ((by rw [hg]; exact Nat.ne_of_gt (blk_lt (g := gb484) (o := .cells #[.string t480, .string t481, .int .i64 t482] 33 (0, 0)) (by (with_reducible repeat first | apply bN_ | apply bD_ | apply bA_); exact BK484.out)) : gb503 ≠ gb484)); have n24_ := Aside0.mk ((by rw [hg]; exact Nat.ne_of_lt (blk_lt (g := gb489) (o := .cells #[.string t485, .string t486, .int .i64 t487] 33 (0, 0)) (by (with_reducible repeat first | apply bN_ | apply bD_ | apply bA_); exact BK489.out)) : gb489 ≠ gb503)); have n25_ := Aside0.mk ((by rw [hg]; exact Nat.ne_of_gt (blk_lt (g := gb489) (o := .cells #[.string t485, .string t486, .int .i64 t487] 33 (0, 0)) (by (with_reducible repeat first | apply bN_ | apply bD_ | apply bA_); exact BK489.out)) : gb503 ≠ gb489)); have n26_ := Aside0.mk ((by rw [hg]; exact Nat.ne_of_lt (blk_lt (g := gb498) (o := .cells #[.string t494, .string t495, .int .i64 t496] 33 (0, 0)) (by (with_reducible repeat first | apply bN_ | apply bD_ | apply bA_); exact BK498.out)) : gb498 ≠ gb503)); have n27_ := Aside0.mk ((by rw [hg]; exact Nat.ne_of_gt (blk_lt (g := gb498) (o := .cells #[.string t494, .string t495, .int .i64 t496] 33 (0, 0)) (by (with_reducible repeat first | apply bN_ | apply bD_ | apply bA_); exact BK498.out)) : gb503 ≠ gb498)); clear BK451; clear BK458; clear BK469; clear BK478; clear BK479; clear BK484; clear BK489; clear BK498; clear HB; have BK451 := n0_; have BK458 := n1_; have BK469 := n2_; have BK478 := n3_; have BK479 := n4_; have BK484 := n5_; have BK489 := n6_; have BK498 := n7_; have HB := n8_; have BK503 := n9_; have GW503 := n10_; have GE503 := n11_; have NB451_503 := n12_; have NB503_451 := n13_; have NB458_503 := n14_; have NB503_458 := n15_; have NB469_503 := n16_; have NB503_469 := n17_; have NB478_503 := n18_; have NB503_478 := n19_; have NB479_503 := n20_; have NB503_479 := n21_; have NB484_503 := n22_; have NB503_484 := n23_; have NB489_503 := n24_; have NB503_489 := n25_; have NB498_503 := n26_; have NB503_498 := n27_; clear n0_ n1_ n2_ n3_ n4_ n5_ n6_ n7_ n8_ n9_ n10_ n11_ n12_ n13_ n14_ n15_ n16_ n17_ n18_ n19_ n20_ n21_ n22_ n23_ n24_ n25_ n26_ n27_; clear hb hbox hg; have hnb133 := NB503_451.out; have hnc133 := NB451_503.out; have hnb134 := NB503_458.out; have hnc134 := NB458_503.out; have hnb135 := NB503_469.out; have hnc135 := NB469_503.out; have hnb136 := NB503_478.out; have hnc136 := NB478_503.out; have hnb137 := NB503_479.out; have hnc137 := NB479_503.out; have hnb138 := NB503_484.out; have hnc138 := NB484_503.out; have hnb139 := NB503_489.out; have hnc139 := NB489_503.out; have hnb140 := NB503_498.out; have hnc140 := NB498_503.out; have hcz141_0 : w132.cell? ⟨gb503, 0, none⟩ = some (.string (⟨#[]⟩ : ByteArray)) := (blk_cell BK503.out 0).trans rfl; have hcz141_1 : w132.cell? ⟨gb503, 1, none⟩ = some (.string (⟨#[]⟩ : ByteArray)) := (blk_cell BK503.out 1).trans rfl; have hcz141_2 : w132.cell? ⟨gb503, 2, none⟩ = some (.int .i64 0) := (blk_cell BK503.out 2).trans rfl; have hfz141_0 := blk_frozen BK503.out 0; have hfz141_1 := blk_frozen BK503.out 1; have hfz141_2 := blk_frozen BK503.out 2; have hcz142_0 : w132.cell? ⟨gb478, 0, none⟩ = some (.string t473) := (blk_cell BK478.out 0).trans rfl; have hcz142_1 : w132.cell? ⟨gb478, 1, none⟩ = some (.string t474) := (blk_cell BK478.out 1).trans rfl; have hcz142_2 : w132.cell? ⟨gb478, 2, none⟩ = some (.int .i64 t475) := (blk_cell BK478.out 2).trans rfl; have hfz142_0 := blk_frozen BK478.out 0; have hfz142_1 := blk_frozen BK478.out 1; have hfz142_2 := blk_frozen BK478.out 2) | ((with_reducible refine gate_callee (f := 22) rfl ?_); refine goesL_ (some 116) rfl rfl Tryd.func22 (by kernel_rfl) rfl #[.agg #[.string t473, .string t474, .int .i64 t475]] rfl (by (try simp only [List.map_toArray, List.map_cons, List.map_nil]); first | done | rfl | (simp only [List.length_drop, List.length_take]; rfl)) ?_; (with_reducible refine (impl_LogRecords.calls kj14 t473 t474 t475 t504 t507 _ ?side1 A110.out).mono ?_); (case side1 => exact TabOK.below HT.out (by repeat (first | (with_reducible first | exact HB.out | apply ba_ | apply bn_ | apply bd_ | refine bset_ ?_ (by assumption)) | exact HB.out))); rintro e w143 ⟨v505, rfl, ho0, hb⟩; refine ⟨_, rfl, ?_⟩; have n0_ := Aside0.mk (Kd.R_lower (Kd.R_newB (Kd.R_newB (Kd.R_newB ho0 (g := gb451) (o := .cells #[.string t449, .string t450] 25 (0, 0)) (by (with_reducible repeat first | apply bN_ | apply bD_ | apply bA_); refine blk_far ?_ NB451_503.out _; (with_reducible repeat first | apply bN_ | apply bD_ | apply bA_); refine blk_far ?_ NB451_503.out _; (with_reducible repeat first | apply bN_ | apply bD_ | apply bA_); refine blk_far ?_ NB451_503.out _; (with_reducible repeat first | apply bN_ | apply bD_ | apply bA_); exact BK451.out)) (g := gb458) (o := .cells #[.string t456, .string t457] 25 (0, 0)) (by (with_reducible repeat first | apply bN_ | apply bD_ | apply bA_); refine blk_far ?_ NB458_503.out _; (with_reducible repeat first | apply bN_ | apply bD_ | apply bA_); refine blk_far ?_ NB458_503.out _; (with_reducible repeat first | apply bN_ | apply bD_ | apply bA_); refine blk_far ?_ NB458_503.out _; (with_reducible repeat first | apply bN_ | apply bD_ | apply bA_); exact BK458.out)) (g := gb479) (o := .cells #[.string t476, .string t477] 25 (0, 0)) (by (with_reducible repeat first | apply bN_ | apply bD_ | apply bA_); refine blk_far ?_ NB479_503.out _; (with_reducible repeat first | apply bN_ | apply bD_ | apply bA_); refine blk_far ?_ NB479_503.out _; (with_reducible repeat first | apply bN_ | apply bD_ | apply bA_); refine blk_far ?_ NB479_503.out _; (with_reducible repeat first | apply bN_ | apply bD_ | apply bA_); exact BK479.out)) (below_size (by repeat (first | (with_reducible first | exact HB.out | apply ba_ | apply bn_ | apply bd_ | refine bset_ ?_ (by assumption)) | exact HB.out)))); have n1_ := Aside0.mk (blk_below (g := gb451) (o := .cells #[.string t449, .string t450] 25 (0, 0)) (by (with_reducible repeat first | apply bN_ | apply bD_ | apply bA_); refine blk_far ?_ NB451_503.out _; (with_reducible repeat first | apply bN_ | apply bD_ | apply bA_); refine blk_far ?_ NB451_503.out _; (with_reducible repeat first | apply bN_ | apply bD_ | apply bA_); refine blk_far ?_ NB451_503.out _; (with_reducible repeat first | apply bN_ | apply bD_ | apply bA_); exact BK451.out) hb); have n2_ := Aside0.mk (blk_below (g := gb458) (o := .cells #[.string t456, .string t457] 25 (0, 0)) (by (with_reducible repeat first | apply bN_ | apply bD_ | apply bA_); refine blk_far ?_ NB458_503.out _; (with_reducible repeat first | apply bN_ | apply bD_ | apply bA_); refine blk_far ?_ NB458_503.out _; (with_reducible repeat first | apply bN_ | apply bD_ | apply bA_); refine blk_far ?_ NB458_503.out _; (with_reducible repeat first | apply bN_ | apply bD_ | apply bA_); exact BK458.out) hb); have n3_ := Aside0.mk (blk_below (g := gb469) (o := .cells #[.string t466, .string t467, .int .i64 t468] 33 (0, 0)) (by (with_reducible repeat first | apply bN_ | apply bD_ | apply bA_); refine blk_far ?_ NB469_503.out _; (with_reducible repeat first | apply bN_ | apply bD_ | apply bA_); refine blk_far ?_ NB469_503.out _; (with_reducible repeat first | apply bN_ | apply bD_ | apply bA_); refine blk_far ?_ NB469_503.out _; (with_reducible repeat first | apply bN_ | apply bD_ | apply bA_); exact BK469.out) hb); have n4_ := Aside0.mk (blk_below (g := gb478) (o := .cells #[.string t473, .string t474, .int .i64 t475] 33 (0, 0)) (by (with_reducible repeat first | apply bN_ | apply bD_ | apply bA_); refine blk_far ?_ NB478_503.out _; (with_reducible repeat first | apply bN_ | apply bD_ | apply bA_); refine blk_far ?_ NB478_503.out _; (with_reducible repeat first | apply bN_ | apply bD_ | apply bA_); refine blk_far ?_ NB478_503.out _; (with_reducible repeat first | apply bN_ | apply bD_ | apply bA_); exact BK478.out) hb); have n5_ := Aside0.mk (blk_below (g := gb479) (o := .cells #[.string t476, .string t477] 25 (0, 0)) (by (with_reducible repeat first | apply bN_ | apply bD_ | apply bA_); refine blk_far ?_ NB479_503.out _; (with_reducible repeat first | apply bN_ | apply bD_ | apply bA_); refine blk_far ?_ NB479_503.out _; (with_reducible repeat first | apply bN_ | apply bD_ | apply bA_); refine blk_far ?_ NB479_503.out _; (with_reducible repeat first | apply bN_ | apply bD_ | apply bA_); exact BK479.out) hb); have n6_ := Aside0.mk (blk_below (g := gb484) (o := .cells #[.string t480, .string t481, .int .i64 t482] 33 (0, 0)) (by (with_reducible repeat first | apply bN_ | apply bD_ | apply bA_); refine blk_far ?_ NB484_503.out _; (with_reducible repeat first | apply bN_ | apply bD_ | apply bA_); refine blk_far ?_ NB484_503.out _; (with_reducible repeat first | apply bN_ | apply bD_ | apply bA_); refine blk_far ?_ NB484_503.out _; (with_reducible repeat first | apply bN_ | apply bD_ | apply bA_); exact BK484.out) hb); have n7_ := Aside0.mk (blk_below (g := gb489) (o := .cells #[.string t485, .string t486, .int .i64 t487] 33 (0, 0)) (by (with_reducible repeat first | apply bN_ | apply bD_ | apply bA_); refine blk_far ?_ NB489_503.out _; (with_reducible repeat first | apply bN_ | apply bD_ | apply bA_); refine blk_far ?_ NB489_503.out _; (with_reducible repeat first | apply bN_ | apply bD_ | apply bA_); refine blk_far ?_ NB489_503.out _; (with_reducible repeat first | apply bN_ | apply bD_ | apply bA_); exact BK489.out) hb); have n8_ := Aside0.mk (blk_below (g := gb498) (o := .cells #[.string t494, .string t495, .int .i64 t496] 33 (0, 0)) (by (with_reducible repeat first | apply bN_ | apply bD_ | apply bA_); refine blk_far ?_ NB498_503.out _; (with_reducible repeat first | apply bN_ | apply bD_ | apply bA_); refine blk_far ?_ NB498_503.out _; (with_reducible repeat first | apply bN_ | apply bD_ | apply bA_); refine blk_far ?_ NB498_503.out _; (with_reducible repeat first | apply bN_ | apply bD_ | apply bA_); exact BK498.out) hb); have n9_ := Aside0.mk (blk_below (g := gb503) (o := .cells #[.string t499, .string t500, .int .i64 t501] 33 (0, 0)) (by (with_reducible repeat first | apply bN_ | apply bD_ | apply bA_); refine blk_put (cs := #[.string t499, .string t500, .int .i64 0]) ?_ 2 _ rfl; (with_reducible repeat first | apply bN_ | apply bD_ | apply bA_); refine blk_put (cs := #[.string t499, .string (⟨#[]⟩ : ByteArray), .int .i64 0]) ?_ 1 _ rfl; (with_reducible repeat first | apply bN_ | apply bD_ | apply bA_); refine blk_put (cs := #[.string (⟨#[]⟩ : ByteArray), .string (⟨#[]⟩ : ByteArray), .int .i64 0]) ?_ 0 _ rfl; (with_reducible repeat first | apply bN_ | apply bD_ | apply bA_); exact BK503.out) hb); have n10_ := Aside0.mk (below_step (by repeat (first | (with_reducible first | exact HB.out | apply ba_ | apply bn_ | apply bd_ | refine bset_ ?_ (by assumption)) | exact HB.out)) hb); clear BK451; clear BK458; clear BK469; clear BK478; clear BK479; clear BK484; clear BK489; clear BK498; clear BK503; clear HB; have HO506 := n0_; have BK451 := n1_; have BK458 := n2_; have BK469 := n3_; have BK478 := n4_; have BK479 := n5_; have BK484 := n6_; have BK489 := n7_; have BK498 := n8_; have BK503 := n9_; have HB := n10_; clear n0_ n1_ n2_ n3_ n4_ n5_ n6_ n7_ n8_ n9_ n10_; (try clear hb); (try clear hb2); (try clear hk); (try clear hi); (try clear ho0); have hcz144_0 : w143.cell? ⟨gb478, 0, none⟩ = some (.string t473) := (blk_cell BK478.out 0).trans rfl; have hcz144_1 : w143.cell? ⟨gb478, 1, none⟩ = some (.string t474) := (blk_cell BK478.out 1).trans rfl; have hcz144_2 : w143.cell? ⟨gb478, 2, none⟩ = some (.int .i64 t475) := (blk_cell BK478.out 2).trans rfl; have hfz144_0 := blk_frozen BK478.out 0; have hfz144_1 := blk_frozen BK478.out 1; have hfz144_2 := blk_frozen BK478.out 2) | ((with_reducible refine gate_callee (f := 23) rfl ?_); refine goesL_ (some 121) rfl rfl Tryd.func23 (by kernel_rfl) rfl #[.agg #[.string t473, .string t474, .int .i64 t475]] rfl (by (try simp only [List.map_toArray, List.map_cons, List.map_nil]); first | done | rfl | (simp only [List.length_drop, List.length_take]; rfl)) ?_; (with_reducible refine (spec_LogRecords.calls kj14 t473 t474 t475 t508 t511 _ A111.out).mono ?_); rintro e w145 ⟨v509, rfl, ho0, hb⟩; refine ⟨_, rfl, ?_⟩; have n0_ := Aside0.mk (Kd.R_elder' (by (with_reducible repeat first | apply kA_ | apply kN_ | apply kD_); exact HO506.out) (Kd.R_base ho0) hb); have n1_ := Aside0.mk (Kd.R_lower (Kd.R_newB (Kd.R_newB (Kd.R_newB (Kd.R_new' ho0 (Kd.R_lt (by (with_reducible repeat first | apply kA_ | apply kN_ | apply kD_); exact HO506.out))) (g := gb451) (o := .cells #[.string t449, .string t450] 25 (0, 0)) (by (with_reducible repeat first | apply bN_ | apply bD_ | apply bA_); exact BK451.out)) (g := gb458) (o := .cells #[.string t456, .string t457] 25 (0, 0)) (by (with_reducible repeat first | apply bN_ | apply bD_ | apply bA_); exact BK458.out)) (g := gb479) (o := .cells #[.string t476, .string t477] 25 (0, 0)) (by (with_reducible repeat first | apply bN_ | apply bD_ | apply bA_); exact BK479.out)) (below_size (by repeat (first | (with_reducible first | exact HB.out | apply ba_ | apply bn_ | apply bd_ | refine bset_ ?_ (by assumption)) | exact HB.out)))); have n2_ := Aside0.mk (blk_below (g := gb451) (o := .cells #[.string t449, .string t450] 25 (0, 0)) (by (with_reducible repeat first | apply bN_ | apply bD_ | apply bA_); exact BK451.out) hb); have n3_ := Aside0.mk (blk_below (g := gb458) (o := .cells #[.string t456, .string t457] 25 (0, 0)) (by (with_reducible repeat first | apply bN_ | apply bD_ | apply bA_); exact BK458.out) hb); have n4_ := Aside0.mk (blk_below (g := gb469) (o := .cells #[.string t466, .string t467, .int .i64 t468] 33 (0, 0)) (by (with_reducible repeat first | apply bN_ | apply bD_ | apply bA_); exact BK469.out) hb); have n5_ := Aside0.mk (blk_below (g := gb478) (o := .cells #[.string t473, .string t474, .int .i64 t475] 33 (0, 0)) (by (with_reducible repeat first | apply bN_ | apply bD_ | apply bA_); exact BK478.out) hb); have n6_ := Aside0.mk (blk_below (g := gb479) (o := .cells #[.string t476, .string t477] 25 (0, 0)) (by (with_reducible repeat first | apply bN_ | apply bD_ | apply bA_); exact BK479.out) hb); have n7_ := Aside0.mk (blk_below (g := gb484) (o := .cells #[.string t480, .string t481, .int .i64 t482] 33 (0, 0)) (by (with_reducible repeat first | apply bN_ | apply bD_ | apply bA_); exact BK484.out) hb); have n8_ := Aside0.mk (blk_below (g := gb489) (o := .cells #[.string t485, .string t486, .int .i64 t487] 33 (0, 0)) (by (with_reducible repeat first | apply bN_ | apply bD_ | apply bA_); exact BK489.out) hb); have n9_ := Aside0.mk (blk_below (g := gb498) (o := .cells #[.string t494, .string t495, .int .i64 t496] 33 (0, 0)) (by (with_reducible repeat first | apply bN_ | apply bD_ | apply bA_); exact BK498.out) hb); have n10_ := Aside0.mk (blk_below (g := gb503) (o := .cells #[.string t499, .string t500, .int .i64 t501] 33 (0, 0)) (by (with_reducible repeat first | apply bN_ | apply bD_ | apply bA_); exact BK503.out) hb); have n11_ := Aside0.mk (below_step (by repeat (first | (with_reducible first | exact HB.out | apply ba_ | apply bn_ | apply bd_ | refine bset_ ?_ (by assumption)) | exact HB.out)) hb); clear HO506; clear BK451; clear BK458; clear BK469; clear BK478; clear BK479; clear BK484; clear BK489; clear BK498; clear BK503; clear HB; have HO506 := n0_; have HO510 := n1_; have BK451 := n2_; have BK458 := n3_; have BK469 := n4_; have BK478 := n5_; have BK479 := n6_; have BK484 := n7_; have BK489 := n8_; have BK498 := n9_; have BK503 := n10_; have HB := n11_; clear n0_ n1_ n2_ n3_ n4_ n5_ n6_ n7_ n8_ n9_ n10_ n11_; (try clear hb); (try clear hb2); (try clear hk); (try clear hi); (try clear ho0)))
     (try simp only [Act.put, List.setIfInBounds_toArray, List.set_cons_zero, List.set_cons_succ])
     go_cut [142] (fun v142 wc => ∃ (kq : Nat) (x142_111 : Bool), v142 = .bool x142_111 ∧ Aside0 (laws_FnLogs.j1 kq t483 t497 t504 x142_111 t473 t474 t475 t476 t477 t480 t481 t482 t494 t495 t496 = some r) ∧ Aside0 (kq ≤ kj14) ∧ Aside0 (Kd.R k25 25 wc w.heap.size (fun k_ => k_ ≠ gb451 ∧ k_ ≠ gb458 ∧ k_ ≠ gb479) v505 t504) ∧ Aside0 (wc.heap[gb451]? = some (.cells #[.string t449, .string t450] 25 (0, 0))) ∧ Aside0 (wc.heap[gb458]? = some (.cells #[.string t456, .string t457] 25 (0, 0))) ∧ Aside0 (wc.heap[gb469]? = some (.cells #[.string t466, .string t467, .int .i64 t468] 33 (0, 0))) ∧ Aside0 (wc.heap[gb478]? = some (.cells #[.string t473, .string t474, .int .i64 t475] 33 (0, 0))) ∧ Aside0 (wc.heap[gb479]? = some (.cells #[.string t476, .string t477] 25 (0, 0))) ∧ Aside0 (wc.heap[gb484]? = some (.cells #[.string t480, .string t481, .int .i64 t482] 33 (0, 0))) ∧ Aside0 (wc.heap[gb489]? = some (.cells #[.string t485, .string t486, .int .i64 t487] 33 (0, 0))) ∧ Aside0 (wc.heap[gb498]? = some (.cells #[.string t494, .string t495, .int .i64 t496] 33 (0, 0))) ∧ Aside0 (wc.heap[gb503]? = some (.cells #[.string t499, .string t500, .int .i64 t501] 33 (0, 0))) ∧ Aside0 (Below w.heap.size w wc))
     case first =>
      have H := HC112.out
      clear HC112
      by_cases c146 : (!(t494.toList == t499.toList) || (!(t495.toList == t500.toList) || (!(t496 == t501)))) = true
      ·rw [if_pos c146] at H
       have c146b0 : (!(t494.toList == t499.toList) || (!(t495.toList == t500.toList) || (!(t496 == t501)))) = true := c146
       clear c146
       (first | rw [c146b0] | (simp only [i64_w, i32_w]; rw [c146b0]) | skip)
       exact absurd (H.trans (congrArg some hyes)) (laws_FnLogs.j1_no _ _ _ _ _ _ _ _ _ _ _ _ _ _ _)
      ·rw [if_neg c146] at H
       have c146b0 : (!(t494.toList == t499.toList) || (!(t495.toList == t500.toList) || (!(t496 == t501)))) = false := by simpa using c146
       clear c146
       (first | rw [c146b0] | (simp only [i64_w, i32_w]; rw [c146b0]) | skip)
       by_cases c164 : (t497 != t502) = true
       ·rw [if_pos c164] at H
        have c164b0 : (t497 != t502) = true := c164
        (try (have c164b1 : decide (t497 = t502) = false := by simpa using c164))
        (try (have c164b2 : (t497 == t502) = false := by simpa using c164))
        (try (have c164b3 : ¬ (t497 = t502) := by simpa using c164))
        clear c164
        exact absurd (H.trans (congrArg some hyes)) (laws_FnLogs.j1_no _ _ _ _ _ _ _ _ _ _ _ _ _ _ _)
       ·rw [if_neg c164] at H
        have c164b0 : (t497 != t502) = false := by simpa using c164
        (try (have c164b1 : decide (t497 = t502) = true := by simpa using c164))
        (try (have c164b2 : (t497 == t502) = true := by simpa using c164))
        clear c164
        by_cases c182 : (t507 != t511) = true
        ·rw [if_pos c182] at H
         have c182b0 : (t507 != t511) = true := c182
         (try (have c182b1 : decide (t507 = t511) = false := by simpa using c182))
         (try (have c182b2 : (t507 == t511) = false := by simpa using c182))
         (try (have c182b3 : ¬ (t507 = t511) := by simpa using c182))
         clear c182
         exact absurd (H.trans (congrArg some hyes)) (laws_FnLogs.j1_no _ _ _ _ _ _ _ _ _ _ _ _ _ _ _)
        ·rw [if_neg c182] at H
         have c182b0 : (t507 != t511) = false := by simpa using c182
         (try (have c182b1 : decide (t507 = t511) = true := by simpa using c182))
         (try (have c182b2 : (t507 == t511) = true := by simpa using c182))
         clear c182
         replace H := Option.bind_eq_some_iff.mp H
         obtain ⟨t512, A2000, H⟩ := H
         try dsimp only at H
         have A200 := Aside0.mk A2000
         clear A2000
         have H' := Aside0.mk H
         clear H
         have hnb201 := NB498_451.out
         have hnc201 := NB451_498.out
         have hnb202 := NB498_458.out
         have hnc202 := NB458_498.out
         have hnb203 := NB498_469.out
         have hnc203 := NB469_498.out
         have hnb204 := NB498_478.out
         have hnc204 := NB478_498.out
         have hnb205 := NB498_479.out
         have hnc205 := NB479_498.out
         have hnb206 := NB498_484.out
         have hnc206 := NB484_498.out
         have hnb207 := NB498_489.out
         have hnc207 := NB489_498.out
         have hnb208 := NB498_503.out
         have hnc208 := NB503_498.out
         have hcz209_0 : w145.cell? ⟨gb498, 0, none⟩ = some (.string t494) := (blk_cell BK498.out 0).trans rfl
         have hcz209_1 : w145.cell? ⟨gb498, 1, none⟩ = some (.string t495) := (blk_cell BK498.out 1).trans rfl
         have hcz209_2 : w145.cell? ⟨gb498, 2, none⟩ = some (.int .i64 t496) := (blk_cell BK498.out 2).trans rfl
         have hfz209_0 := blk_frozen BK498.out 0
         have hfz209_1 := blk_frozen BK498.out 1
         have hfz209_2 := blk_frozen BK498.out 2
         have hnb210 := NB503_451.out
         have hnc210 := NB451_503.out
         have hnb211 := NB503_458.out
         have hnc211 := NB458_503.out
         have hnb212 := NB503_469.out
         have hnc212 := NB469_503.out
         have hnb213 := NB503_478.out
         have hnc213 := NB478_503.out
         have hnb214 := NB503_479.out
         have hnc214 := NB479_503.out
         have hnb215 := NB503_484.out
         have hnc215 := NB484_503.out
         have hnb216 := NB503_489.out
         have hnc216 := NB489_503.out
         have hcz217_0 : w145.cell? ⟨gb503, 0, none⟩ = some (.string t499) := (blk_cell BK503.out 0).trans rfl
         have hcz217_1 : w145.cell? ⟨gb503, 1, none⟩ = some (.string t500) := (blk_cell BK503.out 1).trans rfl
         have hcz217_2 : w145.cell? ⟨gb503, 2, none⟩ = some (.int .i64 t501) := (blk_cell BK503.out 2).trans rfl
         have hfz217_0 := blk_frozen BK503.out 0
         have hfz217_1 := blk_frozen BK503.out 1
         have hfz217_2 := blk_frozen BK503.out 2
         obtain ⟨Ao218, co218, eo218⟩ := Kd.R_slice HO506.out
         subst eo218
         obtain ⟨Ao219, co219, eo219⟩ := Kd.R_slice HO510.out
         subst eo219
         go_wp2_with (first | (go_at_call 24; (with_reducible refine (laws_vRecords.calls kj14 _ _ t504 _ _ t508 t512 _ ?side1 ?side2 ?side3 ?side4 A200.out).mono ?_); (case side1 => repeat (first | exact (Kd.R_reads' HO506.out).2.2 | (with_reducible refine Kd.C_alloc ?_ _) | (with_reducible refine Kd.C_drewN ?_ _) | (with_reducible refine Kd.C_drew ?_))); (case side2 => exact (Kd.R_reads' HO506.out).2.1); (case side3 => repeat (first | exact (Kd.R_reads' HO510.out).2.2 | (with_reducible refine Kd.C_alloc ?_ _) | (with_reducible refine Kd.C_drewN ?_ _) | (with_reducible refine Kd.C_drew ?_))); (case side4 => exact (Kd.R_reads' HO510.out).2.1); rintro e w' ⟨rfl, ⟨nd, rfl⟩⟩))
         go_meet
         case rel => exact ⟨_, (!t512), (by first | rfl | (simp; done) | (simp [*]; done)), H', ⟨by have := HJ14.out; first | omega | exact Nat.le_refl _⟩, ⟨by (with_reducible repeat first | apply kA_ | apply kN_ | apply kD_); exact Kd.R_mono HO506.out (fun _ hk => ⟨hk.1.1.1.2, ⟨hk.1.1.2, hk.1.2⟩⟩)⟩, ⟨by (with_reducible repeat first | apply bN_ | apply bD_ | apply bA_); exact BK451.out⟩, ⟨by (with_reducible repeat first | apply bN_ | apply bD_ | apply bA_); exact BK458.out⟩, ⟨by (with_reducible repeat first | apply bN_ | apply bD_ | apply bA_); exact BK469.out⟩, ⟨by (with_reducible repeat first | apply bN_ | apply bD_ | apply bA_); exact BK478.out⟩, ⟨by (with_reducible repeat first | apply bN_ | apply bD_ | apply bA_); exact BK479.out⟩, ⟨by (with_reducible repeat first | apply bN_ | apply bD_ | apply bA_); exact BK484.out⟩, ⟨by (with_reducible repeat first | apply bN_ | apply bD_ | apply bA_); exact BK489.out⟩, ⟨by (with_reducible repeat first | apply bN_ | apply bD_ | apply bA_); exact BK498.out⟩, ⟨by (with_reducible repeat first | apply bN_ | apply bD_ | apply bA_); exact BK503.out⟩, ⟨by repeat (first | (with_reducible first | exact HB.out | apply ba_ | apply bn_ | apply bd_ | refine bset_ ?_ (by assumption)) | exact HB.out)⟩⟩
     case rest =>
      clear HC112
      try clear c1
      try clear c2
      try clear p2
      try clear c7
      try clear c10
      try clear c11
      try clear c12
      try clear c13
      try clear c14
      try clear c15
      try clear c16
      try clear c17
      try clear c18
      try clear c19
      try clear c20
      try clear c21
      try clear c22
      try clear c23
      try clear c75
      try clear c75b0
      try clear c75b1
      try clear c107
      try clear c113
      try clear c114
      try clear c115
      try clear c116
      try clear c117
      try clear c118
      try clear c122
      try clear c123
      try clear c124
      try clear c125
      try clear c126
      try clear c127
      try clear c128
      try clear c133
      try clear c134
      try clear c135
      try clear c136
      try clear c137
      try clear c138
      try clear c139
      try clear c140
      try clear c146
      try clear c146b0
      try clear c147
      try clear c148
      try clear c149
      try clear c150
      try clear c151
      try clear c152
      try clear c153
      try clear c154
      try clear c156
      try clear c157
      try clear c158
      try clear c159
      try clear c160
      try clear c161
      try clear c162
      try clear c164
      try clear c164b0
      try clear c164b1
      try clear c164b2
      try clear c165
      try clear c166
      try clear c167
      try clear c168
      try clear c169
      try clear c170
      try clear c171
      try clear c172
      try clear c174
      try clear c175
      try clear c176
      try clear c177
      try clear c178
      try clear c179
      try clear c180
      try clear c182
      try clear c182b0
      try clear c182b1
      try clear c182b2
      try clear c183
      try clear c184
      try clear c185
      try clear c186
      try clear c187
      try clear c188
      try clear c189
      try clear c190
      try clear c192
      try clear c193
      try clear c194
      try clear c195
      try clear c196
      try clear c197
      try clear c198
      try clear c201
      try clear c202
      try clear c203
      try clear c204
      try clear c205
      try clear c206
      try clear c207
      try clear c208
      try clear c210
      try clear c211
      try clear c212
      try clear c213
      try clear c214
      try clear c215
      try clear c216
      try clear hcz119_0
      try clear hcz119_1
      try clear hcz119_2
      try clear hcz129_0
      try clear hcz129_1
      try clear hcz129_2
      try clear hcz130_0
      try clear hcz130_1
      try clear hcz130_2
      try clear hcz141_0
      try clear hcz141_1
      try clear hcz141_2
      try clear hcz142_0
      try clear hcz142_1
      try clear hcz142_2
      try clear hcz144_0
      try clear hcz144_1
      try clear hcz144_2
      try clear hcz155_0
      try clear hcz155_1
      try clear hcz155_2
      try clear hcz163_0
      try clear hcz163_1
      try clear hcz163_2
      try clear hcz173_0
      try clear hcz173_1
      try clear hcz173_2
      try clear hcz181_0
      try clear hcz181_1
      try clear hcz181_2
      try clear hcz191_0
      try clear hcz191_1
      try clear hcz191_2
      try clear hcz199_0
      try clear hcz199_1
      try clear hcz199_2
      try clear hcz209_0
      try clear hcz209_1
      try clear hcz209_2
      try clear hcz217_0
      try clear hcz217_1
      try clear hcz217_2
      try clear hfz119_0
      try clear hfz119_1
      try clear hfz119_2
      try clear hfz129_0
      try clear hfz129_1
      try clear hfz129_2
      try clear hfz130_0
      try clear hfz130_1
      try clear hfz130_2
      try clear hfz141_0
      try clear hfz141_1
      try clear hfz141_2
      try clear hfz142_0
      try clear hfz142_1
      try clear hfz142_2
      try clear hfz144_0
      try clear hfz144_1
      try clear hfz144_2
      try clear hfz155_0
      try clear hfz155_1
      try clear hfz155_2
      try clear hfz163_0
      try clear hfz163_1
      try clear hfz163_2
      try clear hfz173_0
      try clear hfz173_1
      try clear hfz173_2
      try clear hfz181_0
      try clear hfz181_1
      try clear hfz181_2
      try clear hfz191_0
      try clear hfz191_1
      try clear hfz191_2
      try clear hfz199_0
      try clear hfz199_1
      try clear hfz199_2
      try clear hfz209_0
      try clear hfz209_1
      try clear hfz209_2
      try clear hfz217_0
      try clear hfz217_1
      try clear hfz217_2
      try clear p2
      obtain ⟨kq, x142_111, rfl, HA, HJ111, HO_21, BK451, BK458, BK469, BK478, BK479, BK484, BK489, BK498, BK503, HB⟩ := hcut
      cases kq with
      | zero => exact absurd HA.out (by simp [laws_FnLogs.j1])
      | succ kj111 =>
       have H := HA.out
       clear HA
       simp only [laws_FnLogs.j1] at H
       by_cases c220 : x142_111 = true
       ·subst c220
        rw [if_pos rfl] at H
        exact absurd ((Option.some.inj H).trans hyes) (by decide)
       ·replace c220 := Bool.eq_false_iff.mpr c220
        subst c220
        rw [if_neg (show ¬ (false = true) by decide)] at H
        replace H := Option.bind_eq_some_iff.mp H
        obtain ⟨⟨t513, t516⟩, A2210, H⟩ := H
        try dsimp only at H
        have A221 := Aside0.mk A2210
        clear A2210
        have HC222 := Aside0.mk H
        clear H
        have hnb223 := NB498_451.out
        have hnc223 := NB451_498.out
        have hnb224 := NB498_458.out
        have hnc224 := NB458_498.out
        have hnb225 := NB498_469.out
        have hnc225 := NB469_498.out
        have hnb226 := NB498_478.out
        have hnc226 := NB478_498.out
        have hnb227 := NB498_479.out
        have hnc227 := NB479_498.out
        have hnb228 := NB498_484.out
        have hnc228 := NB484_498.out
        have hnb229 := NB498_489.out
        have hnc229 := NB489_498.out
        have hnb230 := NB498_503.out
        have hnc230 := NB503_498.out
        have hcz231_0 : wc.cell? ⟨gb498, 0, none⟩ = some (.string t494) := (blk_cell BK498.out 0).trans rfl
        have hcz231_1 : wc.cell? ⟨gb498, 1, none⟩ = some (.string t495) := (blk_cell BK498.out 1).trans rfl
        have hcz231_2 : wc.cell? ⟨gb498, 2, none⟩ = some (.int .i64 t496) := (blk_cell BK498.out 2).trans rfl
        have hfz231_0 := blk_frozen BK498.out 0
        have hfz231_1 := blk_frozen BK498.out 1
        have hfz231_2 := blk_frozen BK498.out 2
        go_upto_region 20 with (first | ((with_reducible refine gate_callee (f := 22) rfl ?_); refine goesL_ (some 145) rfl rfl Tryd.func22 (by kernel_rfl) rfl #[.agg #[.string t494, .string t495, .int .i64 t496]] rfl (by (try simp only [List.map_toArray, List.map_cons, List.map_nil]); first | done | rfl | (simp only [List.length_drop, List.length_take]; rfl)) ?_; (with_reducible refine (impl_LogRecords.calls kj111 t494 t495 t496 t513 t516 _ ?side1 A221.out).mono ?_); (case side1 => exact TabOK.below HT.out (by repeat (first | (with_reducible first | exact HB.out | apply ba_ | apply bn_ | apply bd_ | refine bset_ ?_ (by assumption)) | exact HB.out))); rintro e w232 ⟨v514, rfl, ho0, hb⟩; refine ⟨_, rfl, ?_⟩; have n0_ := Aside0.mk (Kd.R_elder' (by (with_reducible repeat first | apply kA_ | apply kN_ | apply kD_); exact HO_21.out) (Kd.R_base ho0) hb); have n1_ := Aside0.mk (Kd.R_lower (Kd.R_newB (Kd.R_newB (Kd.R_newB (Kd.R_new' ho0 (Kd.R_lt (by (with_reducible repeat first | apply kA_ | apply kN_ | apply kD_); exact HO_21.out))) (g := gb451) (o := .cells #[.string t449, .string t450] 25 (0, 0)) (by (with_reducible repeat first | apply bN_ | apply bD_ | apply bA_); exact BK451.out)) (g := gb458) (o := .cells #[.string t456, .string t457] 25 (0, 0)) (by (with_reducible repeat first | apply bN_ | apply bD_ | apply bA_); exact BK458.out)) (g := gb479) (o := .cells #[.string t476, .string t477] 25 (0, 0)) (by (with_reducible repeat first | apply bN_ | apply bD_ | apply bA_); exact BK479.out)) (below_size (by repeat (first | (with_reducible first | exact HB.out | apply ba_ | apply bn_ | apply bd_ | refine bset_ ?_ (by assumption)) | exact HB.out)))); have n2_ := Aside0.mk (blk_below (g := gb451) (o := .cells #[.string t449, .string t450] 25 (0, 0)) (by (with_reducible repeat first | apply bN_ | apply bD_ | apply bA_); exact BK451.out) hb); have n3_ := Aside0.mk (blk_below (g := gb458) (o := .cells #[.string t456, .string t457] 25 (0, 0)) (by (with_reducible repeat first | apply bN_ | apply bD_ | apply bA_); exact BK458.out) hb); have n4_ := Aside0.mk (blk_below (g := gb469) (o := .cells #[.string t466, .string t467, .int .i64 t468] 33 (0, 0)) (by (with_reducible repeat first | apply bN_ | apply bD_ | apply bA_); exact BK469.out) hb); have n5_ := Aside0.mk (blk_below (g := gb478) (o := .cells #[.string t473, .string t474, .int .i64 t475] 33 (0, 0)) (by (with_reducible repeat first | apply bN_ | apply bD_ | apply bA_); exact BK478.out) hb); have n6_ := Aside0.mk (blk_below (g := gb479) (o := .cells #[.string t476, .string t477] 25 (0, 0)) (by (with_reducible repeat first | apply bN_ | apply bD_ | apply bA_); exact BK479.out) hb); have n7_ := Aside0.mk (blk_below (g := gb484) (o := .cells #[.string t480, .string t481, .int .i64 t482] 33 (0, 0)) (by (with_reducible repeat first | apply bN_ | apply bD_ | apply bA_); exact BK484.out) hb); have n8_ := Aside0.mk (blk_below (g := gb489) (o := .cells #[.string t485, .string t486, .int .i64 t487] 33 (0, 0)) (by (with_reducible repeat first | apply bN_ | apply bD_ | apply bA_); exact BK489.out) hb); have n9_ := Aside0.mk (blk_below (g := gb498) (o := .cells #[.string t494, .string t495, .int .i64 t496] 33 (0, 0)) (by (with_reducible repeat first | apply bN_ | apply bD_ | apply bA_); exact BK498.out) hb); have n10_ := Aside0.mk (blk_below (g := gb503) (o := .cells #[.string t499, .string t500, .int .i64 t501] 33 (0, 0)) (by (with_reducible repeat first | apply bN_ | apply bD_ | apply bA_); exact BK503.out) hb); have n11_ := Aside0.mk (below_step (by repeat (first | (with_reducible first | exact HB.out | apply ba_ | apply bn_ | apply bd_ | refine bset_ ?_ (by assumption)) | exact HB.out)) hb); clear HO_21; clear BK451; clear BK458; clear BK469; clear BK478; clear BK479; clear BK484; clear BK489; clear BK498; clear BK503; clear HB; have HO_21 := n0_; have HO515 := n1_; have BK451 := n2_; have BK458 := n3_; have BK469 := n4_; have BK478 := n5_; have BK479 := n6_; have BK484 := n7_; have BK489 := n8_; have BK498 := n9_; have BK503 := n10_; have HB := n11_; clear n0_ n1_ n2_ n3_ n4_ n5_ n6_ n7_ n8_ n9_ n10_ n11_; (try clear hb); (try clear hb2); (try clear hk); (try clear hi); (try clear ho0)))
        (try simp only [Act.put, List.setIfInBounds_toArray, List.set_cons_zero, List.set_cons_succ])
        go_cut [154] (fun v154 wc => ∃ (kq : Nat) (x154_221 : Bool), v154 = .bool x154_221 ∧ Aside0 (laws_FnLogs.j2 kq t483 t504 x154_221 t473 t474 t475 t476 t477 t480 t481 t482 = some r) ∧ Aside0 (kq ≤ kj111) ∧ Aside0 (Kd.R k25 25 wc w.heap.size (fun k_ => k_ ≠ gb451 ∧ k_ ≠ gb458 ∧ k_ ≠ gb479) v505 t504) ∧ Aside0 (wc.heap[gb451]? = some (.cells #[.string t449, .string t450] 25 (0, 0))) ∧ Aside0 (wc.heap[gb458]? = some (.cells #[.string t456, .string t457] 25 (0, 0))) ∧ Aside0 (wc.heap[gb469]? = some (.cells #[.string t466, .string t467, .int .i64 t468] 33 (0, 0))) ∧ Aside0 (wc.heap[gb478]? = some (.cells #[.string t473, .string t474, .int .i64 t475] 33 (0, 0))) ∧ Aside0 (wc.heap[gb479]? = some (.cells #[.string t476, .string t477] 25 (0, 0))) ∧ Aside0 (wc.heap[gb484]? = some (.cells #[.string t480, .string t481, .int .i64 t482] 33 (0, 0))) ∧ Aside0 (wc.heap[gb489]? = some (.cells #[.string t485, .string t486, .int .i64 t487] 33 (0, 0))) ∧ Aside0 (wc.heap[gb498]? = some (.cells #[.string t494, .string t495, .int .i64 t496] 33 (0, 0))) ∧ Aside0 (wc.heap[gb503]? = some (.cells #[.string t499, .string t500, .int .i64 t501] 33 (0, 0))) ∧ Aside0 (Below w.heap.size w wc))
        case first =>
         have H := HC222.out
         clear HC222
         by_cases c233 : t497 = true
         ·subst c233
          rw [if_pos rfl] at H
          replace H := Option.bind_eq_some_iff.mp H
          obtain ⟨t517, A2340, H⟩ := H
          try dsimp only at H
          have A234 := Aside0.mk A2340
          clear A2340
          have H' := Aside0.mk H
          clear H
          obtain ⟨Ao235, co235, eo235⟩ := Kd.R_slice HO515.out
          subst eo235
          obtain ⟨Ao236, co236, eo236⟩ := Kd.R_slice HO_21.out
          subst eo236
          go_wp2_with (first | (go_at_call 24; (with_reducible refine (laws_vRecords.calls kj111 _ _ t513 _ _ t504 t517 _ ?side1 ?side2 ?side3 ?side4 A234.out).mono ?_); (case side1 => repeat (first | exact (Kd.R_reads' HO515.out).2.2 | (with_reducible refine Kd.C_alloc ?_ _) | (with_reducible refine Kd.C_drewN ?_ _) | (with_reducible refine Kd.C_drew ?_))); (case side2 => exact (Kd.R_reads' HO515.out).2.1); (case side3 => repeat (first | exact (Kd.R_reads' HO_21.out).2.2 | (with_reducible refine Kd.C_alloc ?_ _) | (with_reducible refine Kd.C_drewN ?_ _) | (with_reducible refine Kd.C_drew ?_))); (case side4 => exact (Kd.R_reads' HO_21.out).2.1); rintro e w' ⟨rfl, ⟨nd, rfl⟩⟩))
          go_meet
          case rel => exact ⟨_, (!t517), (by first | rfl | (simp; done) | (simp [*]; done)), H', ⟨by have := HJ14.out; have := HJ111.out; first | omega | exact Nat.le_refl _⟩, ⟨by (with_reducible repeat first | apply kA_ | apply kN_ | apply kD_); exact Kd.R_mono HO_21.out (fun _ hk => ⟨hk.1.1, ⟨hk.1.2.1, hk.1.2.2⟩⟩)⟩, ⟨by (with_reducible repeat first | apply bN_ | apply bD_ | apply bA_); exact BK451.out⟩, ⟨by (with_reducible repeat first | apply bN_ | apply bD_ | apply bA_); exact BK458.out⟩, ⟨by (with_reducible repeat first | apply bN_ | apply bD_ | apply bA_); exact BK469.out⟩, ⟨by (with_reducible repeat first | apply bN_ | apply bD_ | apply bA_); exact BK478.out⟩, ⟨by (with_reducible repeat first | apply bN_ | apply bD_ | apply bA_); exact BK479.out⟩, ⟨by (with_reducible repeat first | apply bN_ | apply bD_ | apply bA_); exact BK484.out⟩, ⟨by (with_reducible repeat first | apply bN_ | apply bD_ | apply bA_); exact BK489.out⟩, ⟨by (with_reducible repeat first | apply bN_ | apply bD_ | apply bA_); exact BK498.out⟩, ⟨by (with_reducible repeat first | apply bN_ | apply bD_ | apply bA_); exact BK503.out⟩, ⟨by repeat (first | (with_reducible first | exact HB.out | apply ba_ | apply bn_ | apply bd_ | refine bset_ ?_ (by assumption)) | exact HB.out)⟩⟩
         ·replace c233 := Bool.eq_false_iff.mpr c233
          subst c233
          rw [if_neg (show ¬ (false = true) by decide)] at H
          have H' := Aside0.mk H
          clear H
          go_wp2
          go_meet
          case rel => exact ⟨_, (false), (by first | rfl | (simp; done) | (simp [*]; done)), H', ⟨by have := HJ14.out; have := HJ111.out; first | omega | exact Nat.le_refl _⟩, ⟨by (with_reducible repeat first | apply kA_ | apply kN_ | apply kD_); exact Kd.R_mono HO_21.out (fun _ hk => ⟨hk.1.1, ⟨hk.1.2.1, hk.1.2.2⟩⟩)⟩, ⟨by (with_reducible repeat first | apply bN_ | apply bD_ | apply bA_); exact BK451.out⟩, ⟨by (with_reducible repeat first | apply bN_ | apply bD_ | apply bA_); exact BK458.out⟩, ⟨by (with_reducible repeat first | apply bN_ | apply bD_ | apply bA_); exact BK469.out⟩, ⟨by (with_reducible repeat first | apply bN_ | apply bD_ | apply bA_); exact BK478.out⟩, ⟨by (with_reducible repeat first | apply bN_ | apply bD_ | apply bA_); exact BK479.out⟩, ⟨by (with_reducible repeat first | apply bN_ | apply bD_ | apply bA_); exact BK484.out⟩, ⟨by (with_reducible repeat first | apply bN_ | apply bD_ | apply bA_); exact BK489.out⟩, ⟨by (with_reducible repeat first | apply bN_ | apply bD_ | apply bA_); exact BK498.out⟩, ⟨by (with_reducible repeat first | apply bN_ | apply bD_ | apply bA_); exact BK503.out⟩, ⟨by repeat (first | (with_reducible first | exact HB.out | apply ba_ | apply bn_ | apply bd_ | refine bset_ ?_ (by assumption)) | exact HB.out)⟩⟩
        case rest =>
         clear HC222
         try clear c1
         try clear c2
         try clear p2
         try clear c7
         try clear c10
         try clear c11
         try clear c12
         try clear c13
         try clear c14
         try clear c15
         try clear c16
         try clear c17
         try clear c18
         try clear c19
         try clear c20
         try clear c21
         try clear c22
         try clear c23
         try clear c75
         try clear c75b0
         try clear c75b1
         try clear c107
         try clear c113
         try clear c114
         try clear c115
         try clear c116
         try clear c117
         try clear c118
         try clear c122
         try clear c123
         try clear c124
         try clear c125
         try clear c126
         try clear c127
         try clear c128
         try clear c133
         try clear c134
         try clear c135
         try clear c136
         try clear c137
         try clear c138
         try clear c139
         try clear c140
         try clear c146
         try clear c146b0
         try clear c147
         try clear c148
         try clear c149
         try clear c150
         try clear c151
         try clear c152
         try clear c153
         try clear c154
         try clear c156
         try clear c157
         try clear c158
         try clear c159
         try clear c160
         try clear c161
         try clear c162
         try clear c164
         try clear c164b0
         try clear c164b1
         try clear c164b2
         try clear c165
         try clear c166
         try clear c167
         try clear c168
         try clear c169
         try clear c170
         try clear c171
         try clear c172
         try clear c174
         try clear c175
         try clear c176
         try clear c177
         try clear c178
         try clear c179
         try clear c180
         try clear c182
         try clear c182b0
         try clear c182b1
         try clear c182b2
         try clear c183
         try clear c184
         try clear c185
         try clear c186
         try clear c187
         try clear c188
         try clear c189
         try clear c190
         try clear c192
         try clear c193
         try clear c194
         try clear c195
         try clear c196
         try clear c197
         try clear c198
         try clear c201
         try clear c202
         try clear c203
         try clear c204
         try clear c205
         try clear c206
         try clear c207
         try clear c208
         try clear c210
         try clear c211
         try clear c212
         try clear c213
         try clear c214
         try clear c215
         try clear c216
         try clear c220
         try clear c223
         try clear c224
         try clear c225
         try clear c226
         try clear c227
         try clear c228
         try clear c229
         try clear c230
         try clear c233
         try clear hcz119_0
         try clear hcz119_1
         try clear hcz119_2
         try clear hcz129_0
         try clear hcz129_1
         try clear hcz129_2
         try clear hcz130_0
         try clear hcz130_1
         try clear hcz130_2
         try clear hcz141_0
         try clear hcz141_1
         try clear hcz141_2
         try clear hcz142_0
         try clear hcz142_1
         try clear hcz142_2
         try clear hcz144_0
         try clear hcz144_1
         try clear hcz144_2
         try clear hcz155_0
         try clear hcz155_1
         try clear hcz155_2
         try clear hcz163_0
         try clear hcz163_1
         try clear hcz163_2
         try clear hcz173_0
         try clear hcz173_1
         try clear hcz173_2
         try clear hcz181_0
         try clear hcz181_1
         try clear hcz181_2
         try clear hcz191_0
         try clear hcz191_1
         try clear hcz191_2
         try clear hcz199_0
         try clear hcz199_1
         try clear hcz199_2
         try clear hcz209_0
         try clear hcz209_1
         try clear hcz209_2
         try clear hcz217_0
         try clear hcz217_1
         try clear hcz217_2
         try clear hcz231_0
         try clear hcz231_1
         try clear hcz231_2
         try clear hfz119_0
         try clear hfz119_1
         try clear hfz119_2
         try clear hfz129_0
         try clear hfz129_1
         try clear hfz129_2
         try clear hfz130_0
         try clear hfz130_1
         try clear hfz130_2
         try clear hfz141_0
         try clear hfz141_1
         try clear hfz141_2
         try clear hfz142_0
         try clear hfz142_1
         try clear hfz142_2
         try clear hfz144_0
         try clear hfz144_1
         try clear hfz144_2
         try clear hfz155_0
         try clear hfz155_1
         try clear hfz155_2
         try clear hfz163_0
         try clear hfz163_1
         try clear hfz163_2
         try clear hfz173_0
         try clear hfz173_1
         try clear hfz173_2
         try clear hfz181_0
         try clear hfz181_1
         try clear hfz181_2
         try clear hfz191_0
         try clear hfz191_1
         try clear hfz191_2
         try clear hfz199_0
         try clear hfz199_1
         try clear hfz199_2
         try clear hfz209_0
         try clear hfz209_1
         try clear hfz209_2
         try clear hfz217_0
         try clear hfz217_1
         try clear hfz217_2
         try clear hfz231_0
         try clear hfz231_1
         try clear hfz231_2
         try clear p2
         obtain ⟨kq, x154_221, rfl, HA, HJ221, HO_21, BK451, BK458, BK469, BK478, BK479, BK484, BK489, BK498, BK503, HB⟩ := hcut
         cases kq with
         | zero => exact absurd HA.out (by simp [laws_FnLogs.j2])
         | succ kj221 =>
          have H := HA.out
          clear HA
          simp only [laws_FnLogs.j2] at H
          by_cases c237 : x154_221 = true
          ·subst c237
           rw [if_pos rfl] at H
           exact absurd ((Option.some.inj H).trans hyes) (by decide)
          ·replace c237 := Bool.eq_false_iff.mpr c237
           subst c237
           rw [if_neg (show ¬ (false = true) by decide)] at H
           by_cases c238 : t483 = 0
           ·rw [if_pos c238] at H
            have c238b0 : (t483 == 0) = true := beq_iff_eq.mpr c238
            have c238b1 : (t483 != 0) = false := bne_eq_false_iff_eq.mpr c238
            clear c238
            replace H := Option.bind_eq_some_iff.mp H
            obtain ⟨⟨t518, t521⟩, A2390, H⟩ := H
            try dsimp only at H
            have A239 := Aside0.mk A2390
            clear A2390
            replace H := Option.bind_eq_some_iff.mp H
            obtain ⟨t522, A2400, H⟩ := H
            try dsimp only at H
            have A240 := Aside0.mk A2400
            clear A2400
            by_cases c241 : t522 = true
            ·subst c241
             rw [if_pos rfl] at H
             by_cases c242 : (t518.length : Int) = (wrap64 ((t504.length : Int) + 1))
             ·rw [if_pos c242] at H
              have c242b0 : ((t518.length : Int) == (wrap64 ((t504.length : Int) + 1))) = true := beq_iff_eq.mpr c242
              have c242b1 : ((t518.length : Int) != (wrap64 ((t504.length : Int) + 1))) = false := bne_eq_false_iff_eq.mpr c242
              clear c242
              by_cases c243 : 0 ≤ (t504.length : Int)
              ·rw [if_pos c243] at H
               have c243b0 := eq_true c243
               have c243b1 : decide (0 ≤ (t504.length : Int)) = true := decide_eq_true c243
               clear c243
               by_cases c244 : (t504.length : Int) ≤ (t518.length : Int)
               ·rw [if_pos c244] at H
                have c244b0 := eq_true c244
                have c244b1 : decide ((t504.length : Int) ≤ (t518.length : Int)) = true := decide_eq_true c244
                clear c244
                obtain ⟨y523, hy523⟩ : ∃ y_ : List (S25), y_ = (t518.take ((t504.length : Int) : Int).toNat) := ⟨_, rfl⟩
                replace H : ((laws_vRecords.f kj221 y523 t504).bind fun t527 => (if t527 = true then (if (t504.length : Int) < (t518.length : Int) then (some ((((rd_T25 t518 (t504.length : Int)).f0).toList) == t476.toList && ((((rd_T25 t518 (t504.length : Int)).f1).toList) == t477.toList))) else (none)) else (some false))) = some r := by first | (rw [hy523]; with_reducible exact H) | (have H2_ := (Option.bind_some _ _).symm.trans H; rw [hy523]; with_reducible exact H2_) | (have H2_ := (Option.bind_some _ _).symm.trans H; with_reducible exact H2_) | with_reducible exact H | (rw [hy523]; exact H) | exact H
                have Ny523 := Aside0.mk hy523
                clear hy523
                replace H := Option.bind_eq_some_iff.mp H
                obtain ⟨t527, A2450, H⟩ := H
                try dsimp only at H
                have A245 := Aside0.mk A2450
                clear A2450
                by_cases c246 : t527 = true
                ·subst c246
                 rw [if_pos rfl] at H
                 by_cases c247 : (t504.length : Int) < (t518.length : Int)
                 ·rw [if_pos c247] at H
                  have c247b0 : decide ((t504.length : Int) < (t518.length : Int)) = true := decide_eq_true c247
                  have c247b1 : decide (t504.length < t518.length) = true := decide_eq_true (Int.ofNat_lt.mp c247)
                  clear c247
                  obtain rfl := Option.some.inj H
                  have hnb248 := NB484_451.out
                  have hnc248 := NB451_484.out
                  have hnb249 := NB484_458.out
                  have hnc249 := NB458_484.out
                  have hnb250 := NB484_469.out
                  have hnc250 := NB469_484.out
                  have hnb251 := NB484_478.out
                  have hnc251 := NB478_484.out
                  have hnb252 := NB484_479.out
                  have hnc252 := NB479_484.out
                  have hnb253 := NB484_489.out
                  have hnc253 := NB489_484.out
                  have hnb254 := NB484_498.out
                  have hnc254 := NB498_484.out
                  have hnb255 := NB484_503.out
                  have hnc255 := NB503_484.out
                  have hcz256_0 : wc.cell? ⟨gb484, 0, none⟩ = some (.string t480) := (blk_cell BK484.out 0).trans rfl
                  have hcz256_1 : wc.cell? ⟨gb484, 1, none⟩ = some (.string t481) := (blk_cell BK484.out 1).trans rfl
                  have hcz256_2 : wc.cell? ⟨gb484, 2, none⟩ = some (.int .i64 t482) := (blk_cell BK484.out 2).trans rfl
                  have hfz256_0 := blk_frozen BK484.out 0
                  have hfz256_1 := blk_frozen BK484.out 1
                  have hfz256_2 := blk_frozen BK484.out 2
                  try go_wp2_with (first | ((with_reducible refine gate_callee (f := 22) rfl ?_); refine goesL_ (some 162) rfl rfl Tryd.func22 (by kernel_rfl) rfl #[.agg #[.string t480, .string t481, .int .i64 t482]] rfl (by (try simp only [List.map_toArray, List.map_cons, List.map_nil]); first | done | rfl | (simp only [List.length_drop, List.length_take]; rfl)) ?_; (with_reducible refine (impl_LogRecords.calls kj221 t480 t481 t482 t518 t521 _ ?side1 A239.out).mono ?_); (case side1 => exact TabOK.below HT.out (by repeat (first | (with_reducible first | exact HB.out | apply ba_ | apply bn_ | apply bd_ | refine bset_ ?_ (by assumption)) | exact HB.out))); rintro e w257 ⟨v519, rfl, ho0, hb⟩; refine ⟨_, rfl, ?_⟩; have n0_ := Aside0.mk (Kd.R_elder' (by (with_reducible repeat first | apply kA_ | apply kN_ | apply kD_); exact HO_21.out) (Kd.R_base ho0) hb); have n1_ := Aside0.mk (Kd.R_lower (Kd.R_newB (Kd.R_newB (Kd.R_newB (Kd.R_new' ho0 (Kd.R_lt (by (with_reducible repeat first | apply kA_ | apply kN_ | apply kD_); exact HO_21.out))) (g := gb451) (o := .cells #[.string t449, .string t450] 25 (0, 0)) (by (with_reducible repeat first | apply bN_ | apply bD_ | apply bA_); exact BK451.out)) (g := gb458) (o := .cells #[.string t456, .string t457] 25 (0, 0)) (by (with_reducible repeat first | apply bN_ | apply bD_ | apply bA_); exact BK458.out)) (g := gb479) (o := .cells #[.string t476, .string t477] 25 (0, 0)) (by (with_reducible repeat first | apply bN_ | apply bD_ | apply bA_); exact BK479.out)) (below_size (by repeat (first | (with_reducible first | exact HB.out | apply ba_ | apply bn_ | apply bd_ | refine bset_ ?_ (by assumption)) | exact HB.out)))); have n2_ := Aside0.mk (blk_below (g := gb451) (o := .cells #[.string t449, .string t450] 25 (0, 0)) (by (with_reducible repeat first | apply bN_ | apply bD_ | apply bA_); exact BK451.out) hb); have n3_ := Aside0.mk (blk_below (g := gb458) (o := .cells #[.string t456, .string t457] 25 (0, 0)) (by (with_reducible repeat first | apply bN_ | apply bD_ | apply bA_); exact BK458.out) hb); have n4_ := Aside0.mk (blk_below (g := gb469) (o := .cells #[.string t466, .string t467, .int .i64 t468] 33 (0, 0)) (by (with_reducible repeat first | apply bN_ | apply bD_ | apply bA_); exact BK469.out) hb); have n5_ := Aside0.mk (blk_below (g := gb478) (o := .cells #[.string t473, .string t474, .int .i64 t475] 33 (0, 0)) (by (with_reducible repeat first | apply bN_ | apply bD_ | apply bA_); exact BK478.out) hb); have n6_ := Aside0.mk (blk_below (g := gb479) (o := .cells #[.string t476, .string t477] 25 (0, 0)) (by (with_reducible repeat first | apply bN_ | apply bD_ | apply bA_); exact BK479.out) hb); have n7_ := Aside0.mk (blk_below (g := gb484) (o := .cells #[.string t480, .string t481, .int .i64 t482] 33 (0, 0)) (by (with_reducible repeat first | apply bN_ | apply bD_ | apply bA_); exact BK484.out) hb); have n8_ := Aside0.mk (blk_below (g := gb489) (o := .cells #[.string t485, .string t486, .int .i64 t487] 33 (0, 0)) (by (with_reducible repeat first | apply bN_ | apply bD_ | apply bA_); exact BK489.out) hb); have n9_ := Aside0.mk (blk_below (g := gb498) (o := .cells #[.string t494, .string t495, .int .i64 t496] 33 (0, 0)) (by (with_reducible repeat first | apply bN_ | apply bD_ | apply bA_); exact BK498.out) hb); have n10_ := Aside0.mk (blk_below (g := gb503) (o := .cells #[.string t499, .string t500, .int .i64 t501] 33 (0, 0)) (by (with_reducible repeat first | apply bN_ | apply bD_ | apply bA_); exact BK503.out) hb); have n11_ := Aside0.mk (below_step (by repeat (first | (with_reducible first | exact HB.out | apply ba_ | apply bn_ | apply bd_ | refine bset_ ?_ (by assumption)) | exact HB.out)) hb); clear HO_21; clear BK451; clear BK458; clear BK469; clear BK478; clear BK479; clear BK484; clear BK489; clear BK498; clear BK503; clear HB; have HO_21 := n0_; have HO520 := n1_; have BK451 := n2_; have BK458 := n3_; have BK469 := n4_; have BK478 := n5_; have BK479 := n6_; have BK484 := n7_; have BK489 := n8_; have BK498 := n9_; have BK503 := n10_; have HB := n11_; clear n0_ n1_ n2_ n3_ n4_ n5_ n6_ n7_ n8_ n9_ n10_ n11_; (try clear hb); (try clear hb2); (try clear hk); (try clear hi); (try clear ho0)))
                  have n0_ := Aside0.mk (Kd.R_drew HO_21.out)
                  have n1_ := Aside0.mk (Kd.R_drew HO520.out)
                  have n2_ := Aside0.mk (blk_drew BK451.out)
                  have n3_ := Aside0.mk (blk_drew BK458.out)
                  have n4_ := Aside0.mk (blk_drew BK469.out)
                  have n5_ := Aside0.mk (blk_drew BK478.out)
                  have n6_ := Aside0.mk (blk_drew BK479.out)
                  have n7_ := Aside0.mk (blk_drew BK484.out)
                  have n8_ := Aside0.mk (blk_drew BK489.out)
                  have n9_ := Aside0.mk (blk_drew BK498.out)
                  have n10_ := Aside0.mk (blk_drew BK503.out)
                  have n11_ := Aside0.mk (below_drew1 HB.out)
                  clear HO_21
                  clear HO520
                  clear BK451
                  clear BK458
                  clear BK469
                  clear BK478
                  clear BK479
                  clear BK484
                  clear BK489
                  clear BK498
                  clear BK503
                  clear HB
                  have HO_21 := n0_
                  have HO520 := n1_
                  have BK451 := n2_
                  have BK458 := n3_
                  have BK469 := n4_
                  have BK478 := n5_
                  have BK479 := n6_
                  have BK484 := n7_
                  have BK489 := n8_
                  have BK498 := n9_
                  have BK503 := n10_
                  have HB := n11_
                  clear n0_ n1_ n2_ n3_ n4_ n5_ n6_ n7_ n8_ n9_ n10_ n11_
                  have p528 : 0 ≤ ((t504.length : Int) : Int) := of_decide_eq_true (by first | (with_reducible assumption) | assumption)
                  have q528 : (t504.length : Int) < (t518.length : Int) := of_decide_eq_true (by first | (with_reducible assumption) | assumption)
                  obtain ⟨Ao260, co260, eoP_⟩ := Kd.R_slice HO520.out
                  subst eoP_
                  obtain ⟨ad528, e528, hx528_0, hx528_1⟩ := at_T25 (Kd.R_reads' HO520.out).2.2 (t504.length : Int) p528 q528
                  cases e528
                  (try simp only [Go.IntWalk.toNatUp] at hx528_0)
                  (try simp only [Go.IntWalk.toNatUp] at hx528_1)
                  replace p528 := eq_true p528
                  replace q528 := eq_true q528
                  refine start_ (n := 28) (S := fun w' => w'.cell? ⟨gb484, 0, none⟩ = some (.string t480) ∧ w'.cell? ⟨gb484, 1, none⟩ = some (.string t481) ∧ w'.cell? ⟨gb484, 2, none⟩ = some (.int .i64 t482) ∧ w'.cell? ⟨gb479, 0, none⟩ = some (.string t476) ∧ w'.cell? ⟨gb479, 1, none⟩ = some (.string t477) ∧ w'.cell? (ad528.add (((t504.length : Int)).toNat * 2)) = some (.string ((rd_T25 t518 (t504.length : Int)).f0)) ∧ w'.cell? ⟨(ad528.add (((t504.length : Int)).toNat * 2)).block, (ad528.add (((t504.length : Int)).toNat * 2)).off + 1, none⟩ = some (.string ((rd_T25 t518 (t504.length : Int)).f1))) (ds := []) #[false, false, false, false, false, false, false, false, false, false, false, false, false, false, false, false, false, false, false, false, false, false, false, false, false, false, false, false] (by kernel_rfl) rfl rfl ⟨(blk_cell BK484.out 0).trans rfl, (blk_cell BK484.out 1).trans rfl, (blk_cell BK484.out 2).trans rfl, (blk_cell BK479.out 0).trans rfl, (blk_cell BK479.out 1).trans rfl, hx528_0, hx528_1⟩ (fun hHeld => ?_); refine with_tabW laws_FnLogs.tab25 laws_FnLogs.bits25 (fun HT_ HW_ => ?_)
                  generalize w257.drew = w258 at HO_21 HO520 BK451 BK458 BK469 BK478 BK479 BK484 BK489 BK498 BK503 HB hx528_0 hx528_1 hHeld ⊢
                  refine take_ (i := 0) (N := some 165) (v := ?_) (a' := ?_) #[true, false, false, false, false, false, false, false, false, false, false, false, false, false, false, false, false, false, false, false, false, false, false, false, false, false, false, false] rfl rfl (take_ofW HT_.out HW_.out (by kernel_rfl)) (fun _ _ _ h => h) (Or.inl ⟨by rfl, ?_⟩) hHeld ?_ ?_
                  rotate_left
                  ·rintro w' ⟨s0, s1, s2, s3, s4, s5, s6⟩
                   (try simp only [Int.toNat_natCast] at s5 s6)
                   go_simp
                   with_reducible rfl
                  rotate_left
                  ·simp only [Act.put, List.setIfInBounds_toArray, List.set_cons_zero, List.set_cons_succ, i64_w, i32_w]
                   rfl
                  refine one_ (i := 1) (N := some 166) #[true, true, false, false, false, false, false, false, false, false, false, false, false, false, false, false, false, false, false, false, false, false, false, false, false, false, false, false] rfl rfl (one_of HT_.out (by kernel_rfl)) (by decide) (fun K hK => ?_)
                  refine goes_ Tryd.func18 (by kernel_rfl) rfl #[.agg #[.string t480, .string t481, .int .i64 t482]] (by rfl) rfl rfl (by (try simp only [List.map_toArray, List.map_cons, List.map_nil]); first | done | rfl | (simp only [List.length_drop, List.length_take]; rfl)) ?_
                  with_reducible refine (impl_IsValidLog.calls kj221 t480 t481 t482 true _ ?side1 A240.out).mono ?_
                  (case side1 => exact TabOK.below HT.out (by repeat (first | (with_reducible first | exact HB.out | apply ba_ | apply bn_ | apply bd_ | refine bset_ ?_ (by assumption)) | exact HB.out)))
                  rintro e w259 ⟨rfl, hb⟩
                  have HS5_ := (hb.cell (World.block_lt_of_cell? _ _ (hHeld.2.2.2.2.2.1))).trans (hHeld.2.2.2.2.2.1)
                  have HS6_ := (hb.cell (World.block_lt_of_cell? _ _ (hHeld.2.2.2.2.2.2))).trans (hHeld.2.2.2.2.2.2)
                  refine ⟨_, rfl, ?_⟩
                  have n0_ := Aside0.mk (Kd.R_below (by (with_reducible repeat first | apply kA_ | apply kN_ | apply kD_); exact HO_21.out) hb)
                  have n1_ := Aside0.mk (Kd.R_below (by (with_reducible repeat first | apply kA_ | apply kN_ | apply kD_); exact HO520.out) hb)
                  have n2_ := Aside0.mk (blk_below (g := gb451) (o := .cells #[.string t449, .string t450] 25 (0, 0)) (by (with_reducible repeat first | apply bN_ | apply bD_ | apply bA_); exact BK451.out) hb)
                  have n3_ := Aside0.mk (blk_below (g := gb458) (o := .cells #[.string t456, .string t457] 25 (0, 0)) (by (with_reducible repeat first | apply bN_ | apply bD_ | apply bA_); exact BK458.out) hb)
                  have n4_ := Aside0.mk (blk_below (g := gb469) (o := .cells #[.string t466, .string t467, .int .i64 t468] 33 (0, 0)) (by (with_reducible repeat first | apply bN_ | apply bD_ | apply bA_); exact BK469.out) hb)
                  have n5_ := Aside0.mk (blk_below (g := gb478) (o := .cells #[.string t473, .string t474, .int .i64 t475] 33 (0, 0)) (by (with_reducible repeat first | apply bN_ | apply bD_ | apply bA_); exact BK478.out) hb)
                  have n6_ := Aside0.mk (blk_below (g := gb479) (o := .cells #[.string t476, .string t477] 25 (0, 0)) (by (with_reducible repeat first | apply bN_ | apply bD_ | apply bA_); exact BK479.out) hb)
                  have n7_ := Aside0.mk (blk_below (g := gb484) (o := .cells #[.string t480, .string t481, .int .i64 t482] 33 (0, 0)) (by (with_reducible repeat first | apply bN_ | apply bD_ | apply bA_); exact BK484.out) hb)
                  have n8_ := Aside0.mk (blk_below (g := gb489) (o := .cells #[.string t485, .string t486, .int .i64 t487] 33 (0, 0)) (by (with_reducible repeat first | apply bN_ | apply bD_ | apply bA_); exact BK489.out) hb)
                  have n9_ := Aside0.mk (blk_below (g := gb498) (o := .cells #[.string t494, .string t495, .int .i64 t496] 33 (0, 0)) (by (with_reducible repeat first | apply bN_ | apply bD_ | apply bA_); exact BK498.out) hb)
                  have n10_ := Aside0.mk (blk_below (g := gb503) (o := .cells #[.string t499, .string t500, .int .i64 t501] 33 (0, 0)) (by (with_reducible repeat first | apply bN_ | apply bD_ | apply bA_); exact BK503.out) hb)
                  have n11_ := Aside0.mk (below_step (by repeat (first | (with_reducible first | exact HB.out | apply ba_ | apply bn_ | apply bd_ | refine bset_ ?_ (by assumption)) | exact HB.out)) hb)
                  clear HO_21
                  clear HO520
                  clear BK451
                  clear BK458
                  clear BK469
                  clear BK478
                  clear BK479
                  clear BK484
                  clear BK489
                  clear BK498
                  clear BK503
                  clear HB
                  have HO_21 := n0_
                  have HO520 := n1_
                  have BK451 := n2_
                  have BK458 := n3_
                  have BK469 := n4_
                  have BK478 := n5_
                  have BK479 := n6_
                  have BK484 := n7_
                  have BK489 := n8_
                  have BK498 := n9_
                  have BK503 := n10_
                  have HB := n11_
                  clear n0_ n1_ n2_ n3_ n4_ n5_ n6_ n7_ n8_ n9_ n10_ n11_
                  (try clear hb)
                  (try clear hb2)
                  (try clear hk)
                  (try clear hi)
                  obtain ⟨Ao261, co261, eo261⟩ := Kd.R_slice HO_21.out
                  (first | subst eo261 | (injection eo261 with f1_ f2_ f3_; have f4_ := f1_.symm; have f5_ := f3_.symm; clear f1_ f2_ f3_; subst f4_; subst f5_))
                  have q262 : ((t504.length : Int) : Int) ≤ ((t518.length : Int) : Int) := of_decide_eq_true (by first | (with_reducible assumption) | assumption)
                  obtain ⟨i0262, hi0262, _, hsz262, _⟩ := info_parts info25
                  have hroom262 : t518.length ≤ co260 := (Kd.R_reads' HO520.out).2.1
                  have hC262 : Kd.C k25 _ (some ad528) t518.length t518 := (Kd.R_reads' HO520.out).2.2
                  have hcut262 := cut_to (P := Tryd.prog) 43 25 .i64 Tryd.underlying43 hi0262 (some ad528) t518.length co260 (t504.length : Int) (of_decide_eq_true (by first | (with_reducible assumption) | assumption)) q262 hroom262
                  have hr262 := Kd.C_take (m := ((t504.length : Int) : Int).toNat) hC262 (by omega)
                  have hy262 : y523.length = ((t504.length : Int) : Int).toNat := (by rw [Ny523.out, List.length_take]; omega)
                  rw [← Ny523.out] at hr262
                  rw [← hy262] at hcut262
                  have HR526 := Aside0.mk hr262
                  have HC526 := Aside0.mk (show y523.length ≤ co260 from by omega)
                  clear hr262 hC262 hroom262 hi0262 hsz262
                  have KY262 := Aside0.mk hy262
                  clear hy262
                  have KL262 := Aside0.mk (show ((t504.length : Int) : Int).toNat ≤ t518.length from by omega)
                  replace q262 := eq_true q262
                  refine hK.out _ _ ⟨(blk_cell BK484.out 0).trans rfl, (blk_cell BK484.out 1).trans rfl, (blk_cell BK484.out 2).trans rfl, (blk_cell BK479.out 0).trans rfl, (blk_cell BK479.out 1).trans rfl, HS5_, HS6_⟩ (fun hHeld => ?_)
                  clear hK K
                  refine norm_ (a' := ?_) ?_ ?_
                  rotate_left
                  ·show Act.put _ (some 166) _ = _
                   simp only [Act.put, List.setIfInBounds_toArray, List.set_cons_zero, List.set_cons_succ, i64_w, i32_w]
                   rfl
                  refine pure_ (i := 2) (N := some 167) (v := ?_) (a' := ?_) #[true, true, true, false, false, false, false, false, false, false, false, false, false, false, false, false, false, false, false, false, false, false, false, false, false, false, false, false] rfl rfl (any_of HT_.out (by kernel_rfl)) (fun _ _ _ h => h) (Or.inl ⟨by rfl, ?_⟩) ?_ ?_
                  rotate_left
                  ·intro w'
                   go_simp
                   with_reducible rfl
                  rotate_left
                  ·simp only [Act.put, List.setIfInBounds_toArray, List.set_cons_zero, List.set_cons_succ, i64_w, i32_w]
                   rfl
                  refine pure_ (i := 3) (N := some 168) (v := ?_) (a' := ?_) #[true, true, true, true, false, false, false, false, false, false, false, false, false, false, false, false, false, false, false, false, false, false, false, false, false, false, false, false] rfl rfl (any_of HT_.out (by kernel_rfl)) (fun _ _ _ h => h) (Or.inl ⟨by rfl, ?_⟩) ?_ ?_
                  rotate_left
                  ·intro w'
                   go_simp
                   with_reducible rfl
                  rotate_left
                  ·simp only [Act.put, List.setIfInBounds_toArray, List.set_cons_zero, List.set_cons_succ, i64_w, i32_w]
                   rfl
                  refine pure_ (i := 4) (N := some 169) (v := ?_) (a' := ?_) #[true, true, true, true, true, false, false, false, false, false, false, false, false, false, false, false, false, false, false, false, false, false, false, false, false, false, false, false] rfl rfl (any_of HT_.out (by kernel_rfl)) (fun _ _ _ h => h) (Or.inl ⟨by rfl, ?_⟩) ?_ ?_
                  rotate_left
                  ·intro w'
                   go_simp
                   with_reducible rfl
                  rotate_left
                  ·simp only [Act.put, List.setIfInBounds_toArray, List.set_cons_zero, List.set_cons_succ, i64_w, i32_w]
                   rfl
                  refine pure_ (i := 5) (N := some 170) (v := ?_) (a' := ?_) #[true, true, true, true, true, true, false, false, false, false, false, false, false, false, false, false, false, false, false, false, false, false, false, false, false, false, false, false] rfl rfl (any_of HT_.out (by kernel_rfl)) (fun _ _ _ h => h) (Or.inl ⟨by rfl, ?_⟩) ?_ ?_
                  rotate_left
                  ·intro w'
                   go_simp
                   with_reducible rfl
                  rotate_left
                  ·simp only [Act.put, List.setIfInBounds_toArray, List.set_cons_zero, List.set_cons_succ, i64_w, i32_w]
                   rfl
                  refine pure_ (i := 6) (N := some 171) (v := ?_) (a' := ?_) #[true, true, true, true, true, true, true, false, false, false, false, false, false, false, false, false, false, false, false, false, false, false, false, false, false, false, false, false] rfl rfl (any_of HT_.out (by kernel_rfl)) (fun _ _ _ h => h) (Or.inl ⟨by rfl, ?_⟩) ?_ ?_
                  rotate_left
                  ·intro w'
                   go_simp
                   with_reducible rfl
                  rotate_left
                  ·simp only [Act.put, List.setIfInBounds_toArray, List.set_cons_zero, List.set_cons_succ, i64_w, i32_w]
                   rfl
                  refine pure_ (i := 7) (N := some 172) (v := ?_) (a' := ?_) #[true, true, true, true, true, true, true, true, false, false, false, false, false, false, false, false, false, false, false, false, false, false, false, false, false, false, false, false] rfl rfl (any_of HT_.out (by kernel_rfl)) (fun _ _ _ h => h) (Or.inl ⟨by rfl, ?_⟩) ?_ ?_
                  rotate_left
                  ·intro w'
                   go_simp
                   with_reducible rfl
                  rotate_left
                  ·simp only [Act.put, List.setIfInBounds_toArray, List.set_cons_zero, List.set_cons_succ, i64_w, i32_w]
                   rfl
                  refine pure_ (i := 8) (N := some 173) (v := ?_) (a' := ?_) #[true, true, true, true, true, true, true, true, true, false, false, false, false, false, false, false, false, false, false, false, false, false, false, false, false, false, false, false] rfl rfl (any_of HT_.out (by kernel_rfl)) (fun _ _ _ h => h) (Or.inl ⟨by rfl, ?_⟩) ?_ ?_
                  rotate_left
                  ·intro w'
                   go_simp
                   with_reducible rfl
                  rotate_left
                  ·simp only [Act.put, List.setIfInBounds_toArray, List.set_cons_zero, List.set_cons_succ, i64_w, i32_w]
                   rfl
                  refine pure_ (i := 9) (N := some 174) (v := ?_) (a' := ?_) #[true, true, true, true, true, true, true, true, true, true, false, false, false, false, false, false, false, false, false, false, false, false, false, false, false, false, false, false] rfl rfl (any_of HT_.out (by kernel_rfl)) (fun _ _ _ h => h) (Or.inl ⟨by rfl, ?_⟩) ?_ ?_
                  rotate_left
                  ·intro w'
                   go_simp
                   with_reducible rfl
                  rotate_left
                  ·simp only [Act.put, List.setIfInBounds_toArray, List.set_cons_zero, List.set_cons_succ, i64_w, i32_w]
                   rfl
                  refine pure_ (i := 10) (N := some 175) (v := ?_) (a' := ?_) #[true, true, true, true, true, true, true, true, true, true, true, false, false, false, false, false, false, false, false, false, false, false, false, false, false, false, false, false] rfl rfl (any_of HT_.out (by kernel_rfl)) (fun _ _ _ h => h) (Or.inl ⟨by rfl, ?_⟩) ?_ ?_
                  rotate_left
                  ·intro w'
                   go_simp
                   with_reducible rfl
                  rotate_left
                  ·simp only [Act.put, List.setIfInBounds_toArray, List.set_cons_zero, List.set_cons_succ, i64_w, i32_w]
                   rfl
                  refine pure_ (i := 11) (N := some 176) (v := ?_) (a' := ?_) #[true, true, true, true, true, true, true, true, true, true, true, true, false, false, false, false, false, false, false, false, false, false, false, false, false, false, false, false] rfl rfl (any_of HT_.out (by kernel_rfl)) (fun _ _ _ h => h) (Or.inl ⟨by rfl, ?_⟩) ?_ ?_
                  rotate_left
                  ·intro w'
                   go_simp
                   with_reducible rfl
                  rotate_left
                  ·simp only [Act.put, List.setIfInBounds_toArray, List.set_cons_zero, List.set_cons_succ, i64_w, i32_w]
                   rfl
                  refine pure_ (i := 12) (N := some 177) (v := ?_) (a' := ?_) #[true, true, true, true, true, true, true, true, true, true, true, true, true, false, false, false, false, false, false, false, false, false, false, false, false, false, false, false] rfl rfl (any_of HT_.out (by kernel_rfl)) (fun _ _ _ h => h) (Or.inl ⟨by rfl, ?_⟩) ?_ ?_
                  rotate_left
                  ·intro w'
                   go_simp
                   with_reducible rfl
                  rotate_left
                  ·simp only [Act.put, List.setIfInBounds_toArray, List.set_cons_zero, List.set_cons_succ, i64_w, i32_w]
                   rfl
                  refine pure_ (i := 13) (N := some 178) (v := ?_) (a' := ?_) #[true, true, true, true, true, true, true, true, true, true, true, true, true, true, false, false, false, false, false, false, false, false, false, false, false, false, false, false] rfl rfl (any_of HT_.out (by kernel_rfl)) (fun _ _ _ h => h) (Or.inl ⟨by rfl, ?_⟩) ?_ ?_
                  rotate_left
                  ·intro w'
                   go_simp
                   with_reducible rfl
                  rotate_left
                  ·simp only [Act.put, List.setIfInBounds_toArray, List.set_cons_zero, List.set_cons_succ, i64_w, i32_w]
                   rfl
                  refine pure_ (i := 14) (N := some 179) (v := ?_) (a' := ?_) #[true, true, true, true, true, true, true, true, true, true, true, true, true, true, true, false, false, false, false, false, false, false, false, false, false, false, false, false] rfl rfl (any_of HT_.out (by kernel_rfl)) (fun _ _ _ h => h) (Or.inl ⟨by rfl, ?_⟩) ?_ ?_
                  rotate_left
                  ·intro w'
                   go_simp
                   with_reducible rfl
                  rotate_left
                  ·simp only [Act.put, List.setIfInBounds_toArray, List.set_cons_zero, List.set_cons_succ, i64_w, i32_w]
                   rfl
                  refine pure_ (i := 15) (N := some 180) (v := ?_) (a' := ?_) #[true, true, true, true, true, true, true, true, true, true, true, true, true, true, true, true, false, false, false, false, false, false, false, false, false, false, false, false] rfl rfl (any_of HT_.out (by kernel_rfl)) (fun _ _ _ h => h) (Or.inl ⟨by rfl, ?_⟩) ?_ ?_
                  rotate_left
                  ·intro w'
                   go_simp
                   with_reducible rfl
                  rotate_left
                  ·simp only [Act.put, List.setIfInBounds_toArray, List.set_cons_zero, List.set_cons_succ, i64_w, i32_w]
                   rfl
                  refine one_ (i := 16) (N := some 181) #[true, true, true, true, true, true, true, true, true, true, true, true, true, true, true, true, true, false, false, false, false, false, false, false, false, false, false, false] rfl rfl (one_of HT_.out (by kernel_rfl)) (by decide) (fun K hK => ?_)
                  refine goes_ Tryd.func24 (by kernel_rfl) rfl #[.slice (some ad528) y523.length co260, .slice Ao261 t504.length co261] (by rfl) rfl rfl (by (try simp only [List.map_toArray, List.map_cons, List.map_nil]); first | done | rfl | (simp only [List.length_drop, List.length_take]; rfl)) ?_
                  with_reducible refine (laws_vRecords.calls kj221 _ _ y523 _ _ t504 true _ ?side1 ?side2 ?side3 ?side4 A245.out).mono ?_
                  (case side1 => repeat (first | exact (by repeat (first | (with_reducible exact HR526.out) | (with_reducible refine Kd.C_alloc ?_ _) | (with_reducible refine Kd.C_drewN ?_ _) | (with_reducible refine Kd.C_drew ?_) | exact HR526.out)) | (with_reducible refine Kd.C_alloc ?_ _) | (with_reducible refine Kd.C_drewN ?_ _) | (with_reducible refine Kd.C_drew ?_)))
                  (case side2 => exact HC526.out)
                  (case side3 => repeat (first | exact (Kd.R_reads' HO_21.out).2.2 | (with_reducible refine Kd.C_alloc ?_ _) | (with_reducible refine Kd.C_drewN ?_ _) | (with_reducible refine Kd.C_drew ?_)))
                  (case side4 => exact (Kd.R_reads' HO_21.out).2.1)
                  rintro e w' ⟨rfl, ⟨nd, rfl⟩⟩
                  refine ⟨_, rfl, ?_⟩
                  refine hK.out _ _ ⟨(blk_cell BK484.out 0).trans rfl, (blk_cell BK484.out 1).trans rfl, (blk_cell BK484.out 2).trans rfl, (blk_cell BK479.out 0).trans rfl, (blk_cell BK479.out 1).trans rfl, hHeld.2.2.2.2.2.1, hHeld.2.2.2.2.2.2⟩ (fun hHeld => ?_)
                  clear hK K
                  refine norm_ (a' := ?_) ?_ ?_
                  rotate_left
                  ·show Act.put _ (some 181) _ = _
                   simp only [Act.put, List.setIfInBounds_toArray, List.set_cons_zero, List.set_cons_succ, i64_w, i32_w]
                   rfl
                  refine pure_ (i := 17) (N := some 182) (v := ?_) (a' := ?_) #[true, true, true, true, true, true, true, true, true, true, true, true, true, true, true, true, true, true, false, false, false, false, false, false, false, false, false, false] rfl rfl (any_of HT_.out (by kernel_rfl)) (fun _ _ _ h => h) (Or.inl ⟨by rfl, ?_⟩) ?_ ?_
                  rotate_left
                  ·intro w'
                   go_simp
                   with_reducible rfl
                  rotate_left
                  ·simp only [Act.put, List.setIfInBounds_toArray, List.set_cons_zero, List.set_cons_succ, i64_w, i32_w]
                   rfl
                  refine pure_ (i := 18) (N := some 183) (v := ?_) (a' := ?_) #[true, true, true, true, true, true, true, true, true, true, true, true, true, true, true, true, true, true, true, false, false, false, false, false, false, false, false, false] rfl rfl (any_of HT_.out (by kernel_rfl)) (fun _ _ _ h => h) (Or.inl ⟨by rfl, ?_⟩) ?_ ?_
                  rotate_left
                  ·intro w'
                   go_simp
                   with_reducible rfl
                  rotate_left
                  ·simp only [Act.put, List.setIfInBounds_toArray, List.set_cons_zero, List.set_cons_succ, i64_w, i32_w]
                   rfl
                  refine pure_ (i := 19) (N := some 184) (v := ?_) (a' := ?_) #[true, true, true, true, true, true, true, true, true, true, true, true, true, true, true, true, true, true, true, true, false, false, false, false, false, false, false, false] rfl rfl (any_of HT_.out (by kernel_rfl)) (fun _ _ _ h => h) (Or.inl ⟨by rfl, ?_⟩) ?_ ?_
                  rotate_left
                  ·intro w'
                   go_simp
                   with_reducible rfl
                  rotate_left
                  ·simp only [Act.put, List.setIfInBounds_toArray, List.set_cons_zero, List.set_cons_succ, i64_w, i32_w]
                   rfl
                  refine pure_ (i := 20) (N := some 185) (v := ?_) (a' := ?_) #[true, true, true, true, true, true, true, true, true, true, true, true, true, true, true, true, true, true, true, true, true, false, false, false, false, false, false, false] rfl rfl (any_of HT_.out (by kernel_rfl)) (fun _ _ _ h => h) (Or.inl ⟨by rfl, ?_⟩) ?_ ?_
                  rotate_left
                  ·intro w'
                   go_simp
                   with_reducible rfl
                  rotate_left
                  ·simp only [Act.put, List.setIfInBounds_toArray, List.set_cons_zero, List.set_cons_succ, i64_w, i32_w]
                   rfl
                  refine pure_ (i := 21) (N := some 186) (v := ?_) (a' := ?_) #[true, true, true, true, true, true, true, true, true, true, true, true, true, true, true, true, true, true, true, true, true, true, false, false, false, false, false, false] rfl rfl (any_of HT_.out (by kernel_rfl)) (fun _ _ _ h => h) (Or.inl ⟨by rfl, ?_⟩) ?_ ?_
                  rotate_left
                  ·intro w'
                   go_simp
                   with_reducible rfl
                  rotate_left
                  ·simp only [Act.put, List.setIfInBounds_toArray, List.set_cons_zero, List.set_cons_succ, i64_w, i32_w]
                   rfl
                  refine pure_ (i := 22) (N := some 187) (v := ?_) (a' := ?_) #[true, true, true, true, true, true, true, true, true, true, true, true, true, true, true, true, true, true, true, true, true, true, true, false, false, false, false, false] rfl rfl (any_of HT_.out (by kernel_rfl)) (fun _ _ _ h => h) (Or.inl ⟨by rfl, ?_⟩) ?_ ?_
                  rotate_left
                  ·intro w'
                   go_simp
                   with_reducible rfl
                  rotate_left
                  ·simp only [Act.put, List.setIfInBounds_toArray, List.set_cons_zero, List.set_cons_succ, i64_w, i32_w]
                   rfl
                  refine take_ (i := 23) (N := some 188) (v := ?_) (a' := ?_) #[true, true, true, true, true, true, true, true, true, true, true, true, true, true, true, true, true, true, true, true, true, true, true, true, false, false, false, false] rfl rfl (take_ofW HT_.out HW_.out (by kernel_rfl)) (fun _ _ _ h => h) (Or.inl ⟨by rfl, ?_⟩) hHeld ?_ ?_
                  rotate_left
                  ·rintro w' ⟨s0, s1, s2, s3, s4, s5, s6⟩
                   (try simp only [Int.toNat_natCast] at s5 s6)
                   go_simp
                   with_reducible rfl
                  rotate_left
                  ·simp only [Act.put, List.setIfInBounds_toArray, List.set_cons_zero, List.set_cons_succ, i64_w, i32_w]
                   rfl
                  refine take_ (i := 24) (N := some 189) (v := ?_) (a' := ?_) #[true, true, true, true, true, true, true, true, true, true, true, true, true, true, true, true, true, true, true, true, true, true, true, true, true, false, false, false] rfl rfl (take_ofW HT_.out HW_.out (by kernel_rfl)) (fun _ _ _ h => h) (Or.inl ⟨by rfl, ?_⟩) hHeld ?_ ?_
                  rotate_left
                  ·rintro w' ⟨s0, s1, s2, s3, s4, s5, s6⟩
                   (try simp only [Int.toNat_natCast] at s5 s6)
                   go_simp
                   with_reducible rfl
                  rotate_left
                  ·simp only [Act.put, List.setIfInBounds_toArray, List.set_cons_zero, List.set_cons_succ, i64_w, i32_w]
                   rfl
                  refine pure_ (i := 25) (N := some 190) (v := ?_) (a' := ?_) #[true, true, true, true, true, true, true, true, true, true, true, true, true, true, true, true, true, true, true, true, true, true, true, true, true, true, false, false] rfl rfl (any_of HT_.out (by kernel_rfl)) (fun _ _ _ h => h) (Or.inl ⟨by rfl, ?_⟩) ?_ ?_
                  rotate_left
                  ·intro w'
                   go_simp
                   with_reducible rfl
                  rotate_left
                  ·simp only [Act.put, List.setIfInBounds_toArray, List.set_cons_zero, List.set_cons_succ, i64_w, i32_w]
                   rfl
                  refine pure_ (i := 26) (N := some 191) (v := ?_) (a' := ?_) #[true, true, true, true, true, true, true, true, true, true, true, true, true, true, true, true, true, true, true, true, true, true, true, true, true, true, true, false] rfl rfl (any_of HT_.out (by kernel_rfl)) (fun _ _ _ h => h) (Or.inl ⟨by rfl, ?_⟩) ?_ ?_
                  rotate_left
                  ·intro w'
                   go_simp
                   with_reducible rfl
                  rotate_left
                  ·simp only [Act.put, List.setIfInBounds_toArray, List.set_cons_zero, List.set_cons_succ, i64_w, i32_w]
                   rfl
                  refine pure_ (i := 27) (N := some 2) (v := ?_) (a' := ?_) #[true, true, true, true, true, true, true, true, true, true, true, true, true, true, true, true, true, true, true, true, true, true, true, true, true, true, true, true] rfl rfl (any_of HT_.out (by kernel_rfl)) (fun _ _ _ h => h) (Or.inl ⟨by rfl, ?_⟩) ?_ ?_
                  rotate_left
                  ·intro w'
                   go_simp
                   with_reducible rfl
                  rotate_left
                  ·simp only [Act.put, List.setIfInBounds_toArray, List.set_cons_zero, List.set_cons_succ, i64_w, i32_w]
                   rfl
                  refine done_ (done_of HT_.out (by kernel_rfl)) ?_
                  try go_wp2
                  go_ret
                  exact ⟨by first | rfl | (simp [errW_none, errW_some] <;> rfl) | (simp [*, errW_none, errW_some] <;> rfl), by repeat (first | (with_reducible first | exact HB.out | apply ba_ | apply bn_ | apply bd_ | refine bset_ ?_ (by assumption)) | exact HB.out)⟩
                 ·rw [if_neg c247] at H
                  exact absurd H (by simp)
                ·replace c246 := Bool.eq_false_iff.mpr c246
                 subst c246
                 rw [if_neg (show ¬ (false = true) by decide)] at H
                 exact absurd ((Option.some.inj H).trans hyes) (by decide)
               ·rw [if_neg c244] at H
                exact absurd H (by simp)
              ·rw [if_neg c243] at H
               exact absurd H (by simp)
             ·rw [if_neg c242] at H
              have c242b0 : ((t518.length : Int) == (wrap64 ((t504.length : Int) + 1))) = false := beq_eq_false_iff_ne.mpr c242
              have c242b1 : ((t518.length : Int) != (wrap64 ((t504.length : Int) + 1))) = true := bne_iff_ne.mpr c242
              exact absurd ((Option.some.inj H).trans hyes) (by decide)
            ·replace c241 := Bool.eq_false_iff.mpr c241
             subst c241
             rw [if_neg (show ¬ (false = true) by decide)] at H
             exact absurd ((Option.some.inj H).trans hyes) (by decide)
           ·rw [if_neg c238] at H
            have c238b0 : (t483 == 0) = false := beq_eq_false_iff_ne.mpr c238
            have c238b1 : (t483 != 0) = true := bne_iff_ne.mpr c238
            obtain rfl := Option.some.inj H
            have hnb304 := NB484_451.out
            have hnc304 := NB451_484.out
            have hnb305 := NB484_458.out
            have hnc305 := NB458_484.out
            have hnb306 := NB484_469.out
            have hnc306 := NB469_484.out
            have hnb307 := NB484_478.out
            have hnc307 := NB478_484.out
            have hnb308 := NB484_479.out
            have hnc308 := NB479_484.out
            have hnb309 := NB484_489.out
            have hnc309 := NB489_484.out
            have hnb310 := NB484_498.out
            have hnc310 := NB498_484.out
            have hnb311 := NB484_503.out
            have hnc311 := NB503_484.out
            have hcz312_0 : wc.cell? ⟨gb484, 0, none⟩ = some (.string t480) := (blk_cell BK484.out 0).trans rfl
            have hcz312_1 : wc.cell? ⟨gb484, 1, none⟩ = some (.string t481) := (blk_cell BK484.out 1).trans rfl
            have hcz312_2 : wc.cell? ⟨gb484, 2, none⟩ = some (.int .i64 t482) := (blk_cell BK484.out 2).trans rfl
            have hfz312_0 := blk_frozen BK484.out 0
            have hfz312_1 := blk_frozen BK484.out 1
            have hfz312_2 := blk_frozen BK484.out 2
            have hnb313 := NB478_451.out
            have hnc313 := NB451_478.out
            have hnb314 := NB478_458.out
            have hnc314 := NB458_478.out
            have hnb315 := NB478_469.out
            have hnc315 := NB469_478.out
            have hnb316 := NB478_479.out
            have hnc316 := NB479_478.out
            have hnb317 := NB478_489.out
            have hnc317 := NB489_478.out
            have hnb318 := NB478_498.out
            have hnc318 := NB498_478.out
            have hnb319 := NB478_503.out
            have hnc319 := NB503_478.out
            have hcz320_0 : wc.cell? ⟨gb478, 0, none⟩ = some (.string t473) := (blk_cell BK478.out 0).trans rfl
            have hcz320_1 : wc.cell? ⟨gb478, 1, none⟩ = some (.string t474) := (blk_cell BK478.out 1).trans rfl
            have hcz320_2 : wc.cell? ⟨gb478, 2, none⟩ = some (.int .i64 t475) := (blk_cell BK478.out 2).trans rfl
            have hfz320_0 := blk_frozen BK478.out 0
            have hfz320_1 := blk_frozen BK478.out 1
            have hfz320_2 := blk_frozen BK478.out 2
            go_wp2
            go_ret
            exact ⟨by first | rfl | (simp [errW_none, errW_some] <;> rfl) | (simp [*, errW_none, errW_some] <;> rfl), by repeat (first | (with_reducible first | exact HB.out | apply ba_ | apply bn_ | apply bd_ | refine bset_ ?_ (by assumption)) | exact HB.out)⟩
end Go.Proofs.YtoghambpbpgodaaDoor.P
namespace Go.Proofs.YtoghambpbpgodaaDoor.P
open Go.RowKit Go.Proofs.YtoghambpbpgodaaDoorW.PrintWords Go.Proofs.YtoghambpbpgodaaDoorW.PrintLast Go.Proofs.YtoghambpbpgodaaDoorW.PrintMore
set_option linter.unusedVariables false

/-- From some number of rounds on, F tells r. -/
def Ter {α : Type} (F : Nat → Option α) (r : α) : Prop := ∃ K, ∀ k, K ≤ k → F k = some r

theorem Ter.const {α : Type} {o : Option α} {r : α} (h : o = some r) : Ter (fun _ => o) r := ⟨0, fun _ _ => h⟩

theorem Ter.ret {α : Type} (r : α) : Ter (fun _ => some r) r := ⟨0, fun _ _ => rfl⟩

theorem Ter.succ {α : Type} {F : Nat → Option α} {r : α} (h : Ter (fun k => F (k + 1)) r) : Ter F r := by
  obtain ⟨K, h⟩ := h
  refine ⟨K + 1, fun k hk => ?_⟩
  obtain ⟨j, rfl⟩ : ∃ j, k = j + 1 := ⟨k - 1, by omega⟩
  exact h j (by omega)

theorem Ter.bind {α β : Type} {F : Nat → Option α} {G : Nat → α → Option β} {a : α} {b : β} (h1 : Ter F a) (h2 : Ter (fun k => G k a) b) : Ter (fun k => (F k).bind (G k)) b := by
  obtain ⟨K1, h1⟩ := h1
  obtain ⟨K2, h2⟩ := h2
  refine ⟨K1 + K2, fun k hk => ?_⟩
  show (F k).bind (G k) = _
  rw [h1 k (by omega)]
  exact h2 k (by omega)

theorem Ter.ifp {α : Type} {c : Prop} [Decidable c] {F G : Nat → Option α} {r : α} (h : c) (h1 : Ter F r) : Ter (fun k => if c then F k else G k) r := by
  simp only [if_pos h]
  exact h1

theorem Ter.ifn {α : Type} {c : Prop} [Decidable c] {F G : Nat → Option α} {r : α} (h : ¬ c) (h1 : Ter G r) : Ter (fun k => if c then F k else G k) r := by
  simp only [if_neg h]
  exact h1

theorem Ter.congr {α : Type} {F G : Nat → Option α} {r : α} (h : ∀ k, F k = G k) (h1 : Ter G r) : Ter F r := by
  obtain ⟨K, h1⟩ := h1
  exact ⟨K, fun k hk => (h k).trans (h1 k hk)⟩

theorem Ter.eq {α : Type} {F : Nat → Option α} {r s : α} (h : Ter F r) (e : r = s) : Ter F s := e ▸ h

theorem Ter.at {α : Type} {F : Nat → Option α} {r : α} (h : Ter F r) : ∃ K, ∀ k, K ≤ k → F k = some r := h

/-- Down from the last index. -/
theorem down_ {Q : Nat → Prop} (n : Nat) (fin : Q n) (step : ∀ i, i < n → Q (i + 1) → Q i) : ∀ i, i ≤ n → Q i := by
  have h : ∀ j i, i + j = n → Q i := by
    intro j
    induction j with
    | zero => intro i h; have : i = n := by omega
              exact this ▸ fin
    | succ j ih => intro i h; exact step i (by omega) (ih (i + 1) (by omega))
  intro i hi
  exact h (n - i) i (by omega)

theorem w64 {n : Int} (h0 : -9223372036854775808 ≤ n) (h1 : n ≤ 9223372036854775807) : wrap64 n = n := by unfold wrap64; omega

theorem w64s {i n : Nat} (h : i < n) (hn : n ≤ 9223372036854775807) : wrap64 ((i : Int) + 1) = ((i + 1 : Nat) : Int) := by
  rw [w64 (by omega) (by omega)]
  omega

theorem getD_at {α : Type} {xs : List α} {d : α} {i : Nat} (h : i < xs.length) : xs.getD ((i : Int)).toNat d = xs[i] := by
  rw [Int.toNat_natCast, List.getD_eq_getElem?_getD, List.getElem?_eq_getElem h]
  rfl

theorem rd_at {xs : List Int} {i : Nat} (h : i < xs.length) : rd xs (i : Int) = xs[i] := getD_at h

theorem take_one {α : Type} {xs : List α} {i : Nat} (h : i < xs.length) : xs.take i ++ [xs[i]] = xs.take (i + 1) := by
  rw [List.take_add_one, List.getElem?_eq_getElem h]
  rfl
end Go.Proofs.YtoghambpbpgodaaDoor.P
namespace Go.Proofs.YtoghambpbpgodaaDoor.P
set_option linter.unusedVariables false
set_option linter.unusedSimpArgs false

abbrev Bs := List UInt8

/-- What stands ahead of the first b, and behind it. -/
def ahead (b : UInt8) (s : Bs) : Bs := s.takeWhile (· != b)

def behind (b : UInt8) (s : Bs) : Bs := (s.dropWhile (· != b)).drop 1

theorem ahead_app {b : UInt8} : ∀ {a : Bs} (r : Bs), b ∉ a → ahead b (a ++ b :: r) = a
  | [], r, _ => by simp [ahead]
  | x :: a, r, h => by
    have h1 : x ≠ b := fun e => h (by simp [e])
    have h2 : b ∉ a := fun e => h (by simp [e])
    have := ahead_app r h2
    unfold ahead at this ⊢
    rw [List.cons_append, List.takeWhile_cons, if_pos (by simpa using h1), this]

theorem ahead_none {b : UInt8} : ∀ {a : Bs}, b ∉ a → ahead b a = a
  | [], _ => rfl
  | x :: a, h => by
    have h1 : x ≠ b := fun e => h (by simp [e])
    have h2 : b ∉ a := fun e => h (by simp [e])
    have := ahead_none h2
    unfold ahead at this ⊢
    rw [List.takeWhile_cons, if_pos (by simpa using h1), this]

theorem not_ahead {b : UInt8} : ∀ (s : Bs), b ∉ ahead b s
  | [] => by simp [ahead]
  | x :: s => by
    have := not_ahead (b := b) s
    unfold ahead at this ⊢
    rw [List.takeWhile_cons]
    by_cases h : x = b
    · rw [if_neg (by simp [h])]; simp
    · rw [if_pos (by simpa using h)]
      simp only [List.mem_cons, not_or]
      exact ⟨fun e => h e.symm, this⟩

theorem split_at {b : UInt8} : ∀ {s : Bs}, b ∈ s → s = ahead b s ++ b :: behind b s
  | [], h => by simp at h
  | x :: s, h => by
    by_cases e : x = b
    · subst e; simp [ahead, behind]
    · have := split_at (b := b) (s := s) (by rcases List.mem_cons.1 h with h | h; exact absurd h.symm e; exact h)
      unfold ahead behind at this ⊢
      rw [List.takeWhile_cons, List.dropWhile_cons, if_pos (by simpa using e), if_pos (by simpa using e), List.cons_append, ← this]

theorem index_one {b : UInt8} : ∀ {a : Bs} (r : Bs), b ∉ a → Lib.index (a ++ b :: r) [b] = a.length
  | [], r, _ => by simp [Lib.index]
  | x :: a, r, h => by
    have h1 : b ≠ x := fun e => h (by simp [e])
    have := index_one r (fun e => h (by simp [e]) : b ∉ a)
    rw [List.cons_append, Lib.index, if_neg (by simpa using h1), this, if_neg (by rw [beq_iff_eq]; omega)]
    rfl

theorem index_not {b : UInt8} : ∀ {a : Bs}, b ∉ a → Lib.index a [b] = -1
  | [], _ => rfl
  | x :: a, h => by
    have h1 : b ≠ x := fun e => h (by simp [e])
    rw [Lib.index, if_neg (by simpa using h1), index_not (fun e => h (by simp [e]) : b ∉ a)]
    rfl

theorem cut_app {b : UInt8} {a : Bs} (r : Bs) (h : b ∉ a) : Lib.cut (a ++ b :: r) [b] = (a, r, true) := by
  unfold Lib.cut
  rw [index_one r h, if_pos (by omega)]
  simp

theorem cut_not {b : UInt8} {a : Bs} (h : b ∉ a) : Lib.cut a [b] = (a, [], false) := by
  unfold Lib.cut
  rw [index_not h]
  rfl

theorem decDigits_digit (n : Nat) : ∀ x ∈ Lib.decDigits n, 48 ≤ x.toNat ∧ x.toNat ≤ 57 := by
  induction n using Nat.strongRecOn with
  | _ n ih =>
    intro x hx
    rw [Lib.decDigits] at hx
    have key : ∀ m : Nat, m < 10 → 48 ≤ (UInt8.ofNat (48 + m)).toNat ∧ (UInt8.ofNat (48 + m)).toNat ≤ 57 := by
      intro m hm
      rw [UInt8.toNat_ofNat']
      omega
    split at hx
    · simp only [List.mem_singleton] at hx
      subst hx
      exact key n (by assumption)
    · rw [List.mem_append] at hx
      rcases hx with hx | hx
      · exact ih (n / 10) (by omega) x hx
      · simp only [List.mem_singleton] at hx
        subst hx
        exact key _ (by omega)

theorem itoa_digit {n : Int} (h : 0 ≤ n) : ∀ x ∈ Lib.itoa n, 48 ≤ x.toNat ∧ x.toNat ≤ 57 := by
  unfold Lib.itoa
  rw [if_neg (by omega)]
  exact decDigits_digit _

theorem decDigits_len : ∀ (j n : Nat), n < 10 ^ (j + 1) → (Lib.decDigits n).length ≤ j + 1
  | 0, n, h => by rw [Lib.decDigits, dif_pos (by simpa using h)]; simp
  | j + 1, n, h => by
    rw [Lib.decDigits]
    split
    · simp
    · have := decDigits_len j (n / 10) (by rw [Nat.pow_succ] at h; omega)
      simp
      exact this

theorem itoa_len {n : Int} (h : 0 ≤ n) (j : Nat) (h2 : n < (10 ^ (j + 1) : Nat)) : (Lib.itoa n).length ≤ j + 1 := by
  unfold Lib.itoa
  rw [if_neg (by omega)]
  exact decDigits_len j _ (by omega)

theorem not_digit {n : Int} (h : 0 ≤ n) (b : UInt8) (hb : b.toNat < 48 ∨ 57 < b.toNat) : b ∉ Lib.itoa n := fun hm => by
  have := itoa_digit h b hm
  omega

def plainB (m : Nat) (s : Bs) : Bool := s.all (fun x => decide (32 ≤ x.toNat) && decide (x.toNat ≤ 126) && x != 35) && decide (s.length ≤ m)

def okRec (c r : Bs) : Bool := !c.isEmpty && plainB 160 c && !c.contains 64 && plainB 260 r

def sumL : Int → Bs → Int
  | h, [] => h
  | h, x :: l => sumL ((41 * h + (x.toNat : Int) + 1) % 999979) l

theorem sumL_range : ∀ (s : Bs) (h : Int), 0 ≤ h → h < 999979 → 0 ≤ sumL h s ∧ sumL h s < 999979
  | [], h, h0, h1 => ⟨h0, h1⟩
  | x :: l, h, h0, h1 => by
    unfold sumL
    exact sumL_range l _ (by omega) (by omega)

def sealB (s : Bs) : Bs := s ++ 35 :: Lib.itoa (sumL 7 s)

def bodyB (k : Int) (c r : Bs) : Bs := Lib.itoa k ++ 32 :: (c ++ 64 :: r)

def lineB (k : Int) (c r : Bs) : Bs := sealB (bodyB k c r) ++ [10]

theorem plainB_mem {m : Nat} {s : Bs} (h : plainB m s = true) : ∀ x ∈ s, 32 ≤ x.toNat ∧ x.toNat ≤ 126 ∧ x ≠ 35 := by
  intro x hx
  unfold plainB at h
  simp only [Bool.and_eq_true, List.all_eq_true, decide_eq_true_eq, bne_iff_ne, ne_eq] at h
  exact ⟨(h.1 x hx).1.1, (h.1 x hx).1.2, (h.1 x hx).2⟩

theorem plainB_len {m : Nat} {s : Bs} (h : plainB m s = true) : s.length ≤ m := by
  unfold plainB at h
  simp only [Bool.and_eq_true, decide_eq_true_eq] at h
  exact h.2

structure Ok (c r : Bs) : Prop where
  ne : c ≠ []
  c1 : ∀ x ∈ c, 32 ≤ x.toNat ∧ x.toNat ≤ 126 ∧ x ≠ 35
  r1 : ∀ x ∈ r, 32 ≤ x.toNat ∧ x.toNat ≤ 126 ∧ x ≠ 35
  cl : c.length ≤ 160
  rl : r.length ≤ 260
  at_ : (64 : UInt8) ∉ c

theorem okRec_ok {c r : Bs} (h : okRec c r = true) : Ok c r := by
  unfold okRec at h
  simp only [Bool.and_eq_true, Bool.not_eq_true', List.isEmpty_eq_false_iff, List.contains_eq_mem, decide_eq_false_iff_not] at h
  exact ⟨h.1.1.1, plainB_mem h.1.1.2, plainB_mem h.2, plainB_len h.1.1.2, plainB_len h.2, h.1.2⟩

theorem body_hash {k : Int} (hk : 0 ≤ k) {c r : Bs} (h : Ok c r) : (35 : UInt8) ∉ bodyB k c r := by
  unfold bodyB
  simp only [List.mem_append, List.mem_cons, not_or]
  exact ⟨not_digit hk _ (by decide), by decide, fun e => (h.c1 _ e).2.2 rfl, by decide, fun e => (h.r1 _ e).2.2 rfl⟩

theorem body_nl {k : Int} (hk : 0 ≤ k) {c r : Bs} (h : Ok c r) : (10 : UInt8) ∉ bodyB k c r := by
  unfold bodyB
  simp only [List.mem_append, List.mem_cons, not_or]
  exact ⟨not_digit hk _ (by decide), by decide, fun e => by have := (h.c1 _ e).1; revert this; decide, by decide, fun e => by have := (h.r1 _ e).1; revert this; decide⟩

theorem seal_nl {s : Bs} (h : (10 : UInt8) ∉ s) : (10 : UInt8) ∉ sealB s := by
  unfold sealB
  simp only [List.mem_append, List.mem_cons, not_or]
  exact ⟨h, by decide, not_digit (sumL_range s 7 (by omega) (by omega)).1 _ (by decide)⟩

theorem body_len {k : Int} (hk : 0 ≤ k) (hk2 : k < 100) {c r : Bs} (h : Ok c r) : (bodyB k c r).length ≤ 424 := by
  have h1 := itoa_len hk 1 (by omega)
  have h2 := h.cl
  have h3 := h.rl
  unfold bodyB
  simp only [List.length_append, List.length_cons]
  omega

theorem seal_len (s : Bs) : (sealB s).length ≤ s.length + 7 := by
  have h1 := itoa_len (sumL_range s 7 (by omega) (by omega)).1 5 (by have := (sumL_range s 7 (by omega) (by omega)).2; omega)
  unfold sealB
  simp only [List.length_append, List.length_cons]
  omega

theorem line_pos (k : Int) (c r : Bs) : 0 < (lineB k c r).length := by unfold lineB; simp

def verB (s : Bs) : Bs := if sealB (Lib.cut s [35]).1 = s ∧ s.length ≤ 4000 then (Lib.cut s [35]).1 else []

def one (k : Int) (t : Bs) : Option (Bs × Bs) :=
  if (Lib.cut t [10]).2.2 = true then
    let x := (Lib.cut (verB (Lib.cut t [10]).1) [32]).2.1
    let c := (Lib.cut x [64]).1
    let r := (Lib.cut x [64]).2.1
    if okRec c r = true ∧ lineB k c r = (Lib.cut t [10]).1 ++ [10] then some (c, r) else none
  else none

theorem cut_prefix {t : Bs} {b : UInt8} (h : (Lib.cut t [b]).2.2 = true) : (Lib.cut t [b]).1 ++ [b] <+: t := by
  by_cases hm : b ∈ t
  · have e := split_at hm
    rw [e, cut_app _ (not_ahead t)]
    exact ⟨behind b t, by simp⟩
  · rw [cut_not hm] at h
    cases h

theorem one_starts {k : Int} {t c r : Bs} (h : one k t = some (c, r)) : okRec c r = true ∧ lineB k c r <+: t := by
  unfold one at h
  simp only [] at h
  split at h
  · rename_i hw
    split at h
    · rename_i hh
      simp only [Option.some.injEq, Prod.mk.injEq] at h
      obtain ⟨rfl, rfl⟩ := h
      exact ⟨hh.1, by rw [hh.2]; exact cut_prefix hw⟩
    · cases h
  · cases h

theorem line_cut {k : Int} (hk : 0 ≤ k) {c r : Bs} (h : Ok c r) (q : Bs) : Lib.cut (lineB k c r ++ q) [10] = (sealB (bodyB k c r), q, true) := by
  unfold lineB
  rw [List.append_assoc]
  exact cut_app q (seal_nl (body_nl hk h))

theorem oneL_of {k : Int} (hk : 0 ≤ k) (hk2 : k < 100) {t c r : Bs} (h : okRec c r = true) (hp : lineB k c r <+: t) : one k t = some (c, r) := by
  have ho := okRec_ok h
  obtain ⟨q, rfl⟩ := hp
  unfold one
  have e1 := line_cut hk ho q
  have e2 : Lib.cut (sealB (bodyB k c r)) [35] = (bodyB k c r, Lib.itoa (sumL 7 (bodyB k c r)), true) := cut_app _ (body_hash hk ho)
  have e3 : verB (sealB (bodyB k c r)) = bodyB k c r := by
    have h1 := seal_len (bodyB k c r)
    have h2 := body_len hk hk2 ho
    unfold verB
    rw [e2, if_pos ⟨rfl, by omega⟩]
  have e4 : Lib.cut (bodyB k c r) [32] = (Lib.itoa k, c ++ 64 :: r, true) := cut_app _ (not_digit hk _ (by decide))
  have e5 : Lib.cut (c ++ 64 :: r) [64] = (c, r, true) := cut_app _ ho.at_
  simp only [e1, e3, e4, e5, if_true]
  rw [if_pos ⟨h, rfl⟩]

def dec (s : Bs) (k : Int) : Option (Bs × Bs) :=
  let hd := Lib.itoa k ++ [32]
  let text := ahead 35 s
  if text.length < hd.length ∨ text.take hd.length ≠ hd then none
  else
    let rest := text.drop hd.length
    let ask := ahead 64 rest
    if ask.length = rest.length then none
    else if okRec ask (rest.drop (ask.length + 1)) = true ∧ lineB k ask (rest.drop (ask.length + 1)) = s ++ [10] then some (ask, rest.drop (ask.length + 1)) else none

def one' (k : Int) (t : Bs) : Option (Bs × Bs) := if 10 ∈ t then dec (ahead 10 t) k else none

theorem one'_starts {k : Int} {t c r : Bs} (h : one' k t = some (c, r)) : okRec c r = true ∧ lineB k c r <+: t := by
  unfold one' at h
  split at h
  · rename_i hm
    unfold dec at h
    simp only [] at h
    split at h
    · cases h
    · split at h
      · cases h
      · split at h
        · rename_i hh
          simp only [Option.some.injEq, Prod.mk.injEq] at h
          obtain ⟨h1, h2⟩ := h
          rw [h2, h1] at hh
          refine ⟨hh.1, ?_⟩
          rw [hh.2]
          exact ⟨behind 10 t, by rw [List.append_assoc]; exact (split_at hm).symm⟩
        · cases h
  · cases h

theorem one'_of {k : Int} (hk : 0 ≤ k) {t c r : Bs} (h : okRec c r = true) (hp : lineB k c r <+: t) : one' k t = some (c, r) := by
  have ho := okRec_ok h
  obtain ⟨q, rfl⟩ := hp
  have hm : (10 : UInt8) ∈ lineB k c r ++ q := by unfold lineB; simp
  have e1 : ahead 10 (lineB k c r ++ q) = sealB (bodyB k c r) := by
    unfold lineB
    rw [List.append_assoc]
    exact ahead_app q (seal_nl (body_nl hk ho))
  have e2 : ahead 35 (sealB (bodyB k c r)) = bodyB k c r := ahead_app _ (body_hash hk ho)
  have e3 : bodyB k c r = (Lib.itoa k ++ [32]) ++ (c ++ 64 :: r) := by unfold bodyB; simp
  have e4 : ahead 64 (c ++ 64 :: r) = c := ahead_app _ ho.at_
  unfold one'
  rw [if_pos hm, e1]
  unfold dec
  simp only [e2]
  rw [if_neg (by rw [e3, List.take_left]; simp)]
  have e5 : (bodyB k c r).drop (Lib.itoa k ++ [32]).length = c ++ 64 :: r := by rw [e3, List.drop_left]
  rw [e5, e4]
  have e6 : (c ++ 64 :: r).drop (c.length + 1) = r := by
    rw [show c ++ 64 :: r = (c ++ [64]) ++ r by simp, show c.length + 1 = (c ++ [64]).length by simp, List.drop_left]
  rw [if_neg (by simp), e6, if_pos ⟨h, rfl⟩]

theorem one'_eq {k : Int} (hk : 0 ≤ k) (hk2 : k < 100) (t : Bs) : one' k t = one k t := by
  apply Option.ext
  rintro ⟨c, r⟩
  constructor
  · intro h; exact oneL_of hk hk2 (one'_starts h).1 (one'_starts h).2
  · intro h; exact one'_of hk (one_starts h).1 (one_starts h).2

def recs : Nat → Int → Bs → List (Bs × Bs)
  | 0, _, _ => []
  | n + 1, k, t => match one k t with
    | none => []
    | some (c, r) => (c, r) :: recs n (k + 1) (t.drop (lineB k c r).length)

def lenR : Int → List (Bs × Bs) → Nat
  | _, [] => 0
  | k, e :: l => (lineB k e.1 e.2).length + lenR (k + 1) l

def endsR : Nat → Int → List (Bs × Bs) → List Nat
  | a, _, [] => [a]
  | a, k, e :: l => a :: endsR (a + (lineB k e.1 e.2).length) (k + 1) l

theorem recs_len : ∀ (n : Nat) (k : Int) (t : Bs), (recs n k t).length ≤ n
  | 0, _, _ => Nat.le_refl _
  | n + 1, k, t => by
    unfold recs
    split
    · simp
    · have := recs_len n
      simp
      exact this _ _

theorem endsR_last : ∀ (l : List (Bs × Bs)) (a : Nat) (k : Int), (endsR a k l)[l.length]? = some (a + lenR k l)
  | [], a, k => by simp [endsR, lenR]
  | e :: l, a, k => by
    have := endsR_last l (a + (lineB k e.1 e.2).length) (k + 1)
    simp only [endsR, lenR, List.length_cons, List.getElem?_cons_succ]
    rw [this, Nat.add_assoc]

theorem endsR_len : ∀ (l : List (Bs × Bs)) (a : Nat) (k : Int), (endsR a k l).length = l.length + 1
  | [], a, k => rfl
  | e :: l, a, k => by simp [endsR, endsR_len l]

theorem endsR_ge : ∀ (l : List (Bs × Bs)) (a : Nat) (k : Int), ∀ x ∈ endsR a k l, a ≤ x
  | [], a, k, x, hx => by simp [endsR] at hx; omega
  | e :: l, a, k, x, hx => by
    simp only [endsR, List.mem_cons] at hx
    rcases hx with rfl | hx
    · exact Nat.le_refl _
    · have := endsR_ge l _ _ x hx
      omega

theorem one_nil {k : Int} (hk : 0 ≤ k) : one k [] = none := by
  cases h : one k [] with
  | none => rfl
  | some p =>
    have h1 := (one_starts (c := p.1) (r := p.2) h).2.length_le
    have h2 := line_pos k p.1 p.2
    simp only [List.length_nil] at h1
    omega

theorem ends_iff : ∀ (n : Nat) (k : Int) (a : Nat) (D P : Bs), 0 ≤ k → k + n ≤ 60 → ((a + D.length) ∈ endsR a k (recs n k (D ++ P)) ↔ lenR k (recs n k D) = D.length)
  | 0, k, a, D, P, hk, hk2 => by simp only [recs, endsR, lenR, List.mem_singleton]; omega
  | n + 1, k, a, D, P, hk, hk2 => by
    have hk3 : k < 100 := by omega
    cases h1 : one k (D ++ P) with
    | none =>
      have h2 : one k D = none := by
        cases h2 : one k D with
        | none => rfl
        | some p =>
          have hs := one_starts (c := p.1) (r := p.2) h2
          rw [oneL_of hk hk3 hs.1 (hs.2.trans (List.prefix_append D P))] at h1
          cases h1
      simp only [recs, h1, h2, endsR, lenR, List.mem_singleton]
      omega
    | some p =>
      obtain ⟨c, r⟩ := p
      have hs := one_starts h1
      have hpos := line_pos k c r
      by_cases hle : (lineB k c r).length ≤ D.length
      · have hp : lineB k c r <+: D := List.prefix_of_prefix_length_le hs.2 (List.prefix_append D P) hle
        have h2 := oneL_of hk hk3 hs.1 hp
        have ih := ends_iff n (k + 1) (a + (lineB k c r).length) (D.drop (lineB k c r).length) P (by omega) (by omega)
        rw [← List.drop_append_of_le_length hle] at ih
        simp only [recs, h1, h2, endsR, lenR, List.mem_cons]
        rw [show a + (lineB k c r).length + (D.drop (lineB k c r).length).length = a + D.length by simp; omega] at ih
        constructor
        · rintro (h | h)
          · omega
          · have := ih.1 h
            simp at this
            omega
        · intro h
          exact .inr (ih.2 (by simp; omega))
      · have h2 : one k D = none := by
          cases h2 : one k D with
          | none => rfl
          | some p =>
            have hs2 := one_starts (c := p.1) (r := p.2) h2
            rw [oneL_of hk hk3 hs2.1 (hs2.2.trans (List.prefix_append D P))] at h1
            obtain ⟨rfl, rfl⟩ := Prod.mk.inj (Option.some.inj h1)
            exact absurd hs2.2.length_le hle
        simp only [recs, h1, h2, endsR, lenR, List.mem_cons]
        constructor
        · rintro (h | h)
          · omega
          · have := endsR_ge _ _ _ _ h
            omega
        · intro h
          exact .inl (by omega)
end Go.Proofs.YtoghambpbpgodaaDoor.P
namespace Go.Proofs.YtoghambpbpgodaaDoor.P
open Go.RowKit Go.Proofs.YtoghambpbpgodaaDoorW.PrintWords Go.Proofs.YtoghambpbpgodaaDoorW.PrintLast Go.Proofs.YtoghambpbpgodaaDoorW.PrintMore
set_option linter.unusedVariables false
set_option linter.unusedSimpArgs false

/-- A list of bytes as a text. -/
def bs (l : Bs) : ByteArray := ⟨l.toArray⟩

theorem bs_of (s : ByteArray) : s = bs s.data.toList := by
  obtain ⟨⟨l⟩⟩ := s
  rfl

theorem bs_list (l : Bs) : (bs l).data.toList = l := rfl

theorem bs_size (l : Bs) : (bs l).size = l.length := rfl

theorem bs_app (a b : Bs) : bs a ++ bs b = bs (a ++ b) := by
  apply ByteArray.ext
  rw [ByteArray.data_append]
  show a.toArray ++ b.toArray = (a ++ b).toArray
  simp

theorem bs_cut (l : Bs) (i j : Nat) : (bs l).extract i j = bs ((l.take j).drop i) := by
  apply ByteArray.ext
  rw [ByteArray.data_extract]
  show l.toArray.extract i j = ((l.take j).drop i).toArray
  simp [List.extract_eq_drop_take']

theorem bs_from (l : Bs) (i : Nat) : (bs l).extract i l.length = bs (l.drop i) := by rw [bs_cut, List.take_length]

theorem bs_upto (l : Bs) (j : Nat) : (bs l).extract 0 j = bs (l.take j) := by rw [bs_cut]; rfl

theorem toList_loop (s : ByteArray) : ∀ (n i : Nat) (r : Bs), s.size - i = n → ByteArray.toList.loop s i r = r.reverse ++ s.data.toList.drop i
  | 0, i, r, h => by
    rw [ByteArray.toList.loop, if_neg (by omega), List.drop_eq_nil_of_le (by rw [Array.length_toList, ByteArray.size_data]; omega), List.append_nil]
  | n + 1, i, r, h => by
    have hi : i < s.data.toList.length := by rw [Array.length_toList, ByteArray.size_data]; omega
    rw [ByteArray.toList.loop, if_pos (by omega), toList_loop s n (i + 1) _ (by omega), List.reverse_cons, List.append_assoc, List.drop_eq_getElem_cons hi]
    have hi2 : i < s.data.size := by rw [ByteArray.size_data]; omega
    have : s.get! i = s.data.toList[i] := by
      rw [Array.getElem_toList]
      show s.data[i]! = _
      rw [getElem!_pos s.data i hi2]
    rw [this]
    rfl

theorem toList_is (s : ByteArray) : s.toList = s.data.toList := by
  unfold ByteArray.toList
  rw [toList_loop s s.size 0 [] (by omega)]
  rfl

theorem bs_toList (l : Bs) : (bs l).toList = l := by rw [toList_is]; rfl

theorem bs_bt {l : Bs} {i : Nat} (h : i < l.length) : bt (bs l) (i : Int) = (l[i].toNat : Int) := by
  unfold bt
  rw [dif_pos (by rw [Int.toNat_natCast, bs_size]; exact h)]
  rfl

theorem lit0 : (⟨#[]⟩ : ByteArray) = bs [] := rfl

theorem lit1 (b : UInt8) : (⟨#[b]⟩ : ByteArray) = bs [b] := rfl

theorem lit2 (b c : UInt8) : (⟨#[b, c]⟩ : ByteArray) = bs [b, c] := rfl

theorem byte_eq {a b : UInt8} (h : (a.toNat : Int) = (b.toNat : Int)) : a = b := UInt8.toNat_inj.1 (Int.ofNat.inj h)

theorem byte_lt (a : UInt8) : a.toNat < 256 := UInt8.toNat_lt a
end Go.Proofs.YtoghambpbpgodaaDoor.P
