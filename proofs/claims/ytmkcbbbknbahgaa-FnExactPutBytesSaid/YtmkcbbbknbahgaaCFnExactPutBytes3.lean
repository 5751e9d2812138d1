/- Part 3 of the proof of FnExactPutBytes: contracts of functions that the law reaches. Conditions: none. -/
import Derived.Test.YtmkcbbbknbahgaaCFnExactPutBytes2
namespace Go.Proofs.Ytmkcbbbknbahgaa.P
open Go.RowKit Go.Proofs.YtmkcbbbknbahgaaW.PrintWords Go.Proofs.YtmkcbbbknbahgaaW.PrintLast Go.Proofs.YtmkcbbbknbahgaaW.PrintMore
attribute [local go_sem] max2_int min2_int max_two min_two max_three min_three max_four min_four   -- for this text's walks alone
set_option linter.unusedVariables false
set_option linter.unusedSimpArgs false

def spec_l6Widen.f (k : Nat) (l0_0 : List (List Int)) (a0_1 : Int) (a0_2 : Int) (a0_3 : Int) (a0_4 : Int) (a0_5 : Int) (a0_6 : Int) (a1 : Int) : Option ((List (List Int)) × Int × Int × Int × Int × Int × Int × Bool) := if a1 > 64 then (some (([] : List (List Int)), 0, 0, 0, 0, 0, 0, false)) else (if 0 ≤ a1 then (if (a1 : Int).toNat ≤ 281474976710656 then ((spec_l2Append.f k l0_0 a0_1 a0_2 a0_3 a0_4 (List.replicate (a1 : Int).toNat 0)).bind fun bt219 => (if bt219.2.2.2.2.2 = true then ((spec_l2Bytes.f k l0_0 a0_1 a0_2 a0_3 a0_4).bind fun t229 => (if 0 ≤ a0_6 then (if a0_6 ≤ (t229.length : Int) then ((spec_l2Write.f k bt219.1 bt219.2.1 bt219.2.2.1 bt219.2.2.2.1 bt219.2.2.2.2.1 (wrap64 (a0_6 + a1)) (t229.drop (a0_6 : Int).toNat)).bind fun t236 => (some (t236, bt219.2.1, bt219.2.2.1, bt219.2.2.2.1, bt219.2.2.2.2.1, a0_5, wrap64 (a0_6 + a1), true))) else (none)) else (none))) else (some (([] : List (List Int)), 0, 0, 0, 0, 0, 0, false)))) else (none)) else (none))

def spec_l6Widen.T3 : Bool × List (List Nat × List Nat) := (true, [([], []), ([0], [0]), ([], []), ([2], [2]), ([], []), ([4, 4], [4]), ([1, 3, 5], [1, 3, 5]), ([6], [6]), ([7], [7]), ([7], [7]), ([7], [7]), ([], []), ([], []), ([11, 8, 6, 0, 1, 2, 3, 4, 5, 6, 7, 8, 11, 12], [8, 11]), ([12, 9, 13, 0, 1, 2, 3, 4, 5, 6, 7, 8, 9, 11, 12, 13], [9, 12]), ([10, 14, 0, 1, 2, 3, 4, 5, 6, 7, 8, 9, 10, 11, 12, 13, 14], [10])])

def spec_l6Widen.B3 : List Nat := [0, 1, 0, 4, 0, 16, 63, 127, 255, 255, 255, 0, 0, 6655, 15359, 32767]

theorem spec_l6Widen.tab3 : rtab .any (opsOf Try.f145 3) = spec_l6Widen.T3 := by kernel_rfl

theorem spec_l6Widen.bits3 : waitsOk spec_l6Widen.T3.2 spec_l6Widen.B3 = true := by kernel_rfl

def spec_l6Widen.T6 : Bool × List (List Nat × List Nat) := (true, [([], []), ([0], [0]), ([], []), ([2], [2]), ([1, 3], [1, 3]), ([], []), ([5], [5]), ([4, 6], [4, 6]), ([7, 4, 0, 1, 2, 3, 4, 5, 6, 7], [7])])

def spec_l6Widen.B6 : List Nat := [0, 1, 0, 4, 15, 0, 32, 127, 255]

theorem spec_l6Widen.tab6 : rtab .any (opsOf Try.f145 6) = spec_l6Widen.T6 := by kernel_rfl

theorem spec_l6Widen.bits6 : waitsOk spec_l6Widen.T6.2 spec_l6Widen.B6 = true := by kernel_rfl

def spec_l6Widen.T7 : Bool × List (List Nat × List Nat) := (true, [([], []), ([], []), ([], []), ([2], [2]), ([], []), ([3, 4], [3, 4]), ([], []), ([0, 1, 5, 6], [0, 1, 5, 6]), ([], []), ([], []), ([9], [9]), ([], []), ([11], [11]), ([], []), ([12, 13], [12, 13]), ([7, 8, 10, 14], [7, 8, 10, 14]), ([15, 7, 0, 1, 2, 3, 4, 5, 6, 7, 8, 9, 10, 11, 12, 13, 14, 15], [15]), ([16, 0, 1, 2, 3, 4, 5, 6, 7, 8, 9, 10, 11, 12, 13, 14, 15, 16], [])])

def spec_l6Widen.B7 : List Nat := [0, 0, 0, 4, 0, 28, 0, 127, 0, 0, 512, 0, 2048, 0, 14336, 32767, 65535, 131071]

theorem spec_l6Widen.tab7 : rtab .any (opsOf Try.f145 7) = spec_l6Widen.T7 := by kernel_rfl

theorem spec_l6Widen.bits7 : waitsOk spec_l6Widen.T7.2 spec_l6Widen.B7 = true := by kernel_rfl

set_option maxHeartbeats 8000000 in
set_option maxRecDepth 100000 in
theorem spec_l6Widen.calls (k : Nat) (A0_0 : Option Addr) (c0_0 : Nat) (l0_0 : List (List Int)) (a0_1 : Int) (a0_2 : Int) (a0_3 : Int) (a0_4 : Int) (a0_5 : Int) (a0_6 : Int) (a1 : Int) (r1 : List (List Int)) (r2 : Int) (r3 : Int) (r4 : Int) (r5 : Int) (r6 : Int) (r7 : Int) (r8 : Bool) (w : World) (hr0_0 : Kd.C (Kd.slice 5 (Kd.int .u8)) w A0_0 l0_0.length l0_0) (hc0_0 : l0_0.length ≤ c0_0) (h : spec_l6Widen.f k l0_0 a0_1 a0_2 a0_3 a0_4 a0_5 a0_6 a1 = some (r1, r2, r3, r4, r5, r6, r7, r8)) :
  Calls Try.prog 145 #[.agg #[.slice A0_0 l0_0.length c0_0, .int .i64 a0_1, .int .i64 a0_2, .int .i64 a0_3, .int .i64 a0_4, .int .i64 a0_5, .int .i64 a0_6], .int .i64 a1] w fun e w' => ∃ v0_ : Value, e = .returned (.tuple #[.agg #[v0_, .int .i64 r2, .int .i64 r3, .int .i64 r4, .int .i64 r5, .int .i64 r6, .int .i64 r7], .bool r8]) ∧ Kd.S (Kd.slice 5 (Kd.int .u8)) 29 w' w.heap.size (fun _ => True) v0_ r1 ∧ Below w.heap.size w w' := by
 have hu34 := Try.underlying34
 have hu31 := Try.underlying31
 have hu32 := Try.underlying32
 have HR0_0 := Aside0.mk hr0_0
 have HC0_0 := Aside0.mk hc0_0
 clear hr0_0 hc0_0
 have HB := Aside0.mk (Below.refl w.heap.size w)
 have H : (if a1 > 64 then (some (([] : List (List Int)), 0, 0, 0, 0, 0, 0, false)) else (if 0 ≤ a1 then (if (a1 : Int).toNat ≤ 281474976710656 then ((spec_l2Append.f k l0_0 a0_1 a0_2 a0_3 a0_4 (List.replicate (a1 : Int).toNat 0)).bind fun bt219 => (if bt219.2.2.2.2.2 = true then ((spec_l2Bytes.f k l0_0 a0_1 a0_2 a0_3 a0_4).bind fun t229 => (if 0 ≤ a0_6 then (if a0_6 ≤ (t229.length : Int) then ((spec_l2Write.f k bt219.1 bt219.2.1 bt219.2.2.1 bt219.2.2.2.1 bt219.2.2.2.2.1 (wrap64 (a0_6 + a1)) (t229.drop (a0_6 : Int).toNat)).bind fun t236 => (some (t236, bt219.2.1, bt219.2.2.1, bt219.2.2.2.1, bt219.2.2.2.2.1, a0_5, wrap64 (a0_6 + a1), true))) else (none)) else (none))) else (some (([] : List (List Int)), 0, 0, 0, 0, 0, 0, false)))) else (none)) else (none))) = some (r1, r2, r3, r4, r5, r6, r7, r8) := h
 clear h
 by_cases c3 : a1 > 64
 ·rw [if_pos c3] at H
  have c3b0 : decide (64 < a1) = true := decide_eq_true c3
  clear c3
  simp only [Option.some.injEq, Prod.mk.injEq] at H
  obtain ⟨rfl, rfl, rfl, rfl, rfl, rfl, rfl, rfl⟩ := H
  go_enter Try.func145, Try.ntmps145
  go_wp2_with (first | ((with_reducible refine gate_dst (N := 2) rfl ?_); refine box_event ?hg (N := 2) ?hd (cs := #[.slice A0_0 l0_0.length c0_0, .int .i64 a0_1, .int .i64 a0_2, .int .i64 a0_3, .int .i64 a0_4, .int .i64 a0_5, .int .i64 a0_6]) (t := 34) ?hr ?_; (case hd => rfl); (case hg => rfl); (case hr => exact gs_); intro gb214 hg w4 hbox hb; have BK214 := Aside0.mk (hbox); have GW214 := gE_ HB hg; have GE214 := gE_ HB hg; replace HB := Aside0.mk (below_step (by repeat (first | (with_reducible first | exact HB.out | apply ba_ | apply bn_ | apply bd_) | exact HB.out)) hb); clear hb hbox hg) | ((with_reducible refine gate_dst (N := 4) rfl ?_); refine box_event ?hg (N := 4) ?hd (cs := #[.slice none 0 0, .int .i64 0, .int .i64 0, .int .i64 0, .int .i64 0, .int .i64 0, .int .i64 0]) (t := 34) ?hr ?_; (case hd => rfl); (case hg => rfl); (case hr => exact gs_); intro gb215 hg w5 hbox hb; have BK215 := Aside0.mk (hbox); have GW215 := gE_ HB hg; have GE215 := gE_ HB hg; replace HB := Aside0.mk (below_step (by repeat (first | (with_reducible first | exact HB.out | apply ba_ | apply bn_ | apply bd_ | refine bset_ ?_ (by assumption)) | exact HB.out)) hb); have NB214_215 := nB_ BK214 hg; have NB215_214 := nA_ BK214 hg; replace BK214 := bB_ BK214 hb; clear hb hbox hg; have hnb6 := NB215_214.out; have hnc6 := NB214_215.out; obtain ⟨hcz7_0, hcz7_1, hcz7_2, hcz7_3, hcz7_4, hcz7_5, hcz7_6, hfz7_0, hfz7_1, hfz7_2, hfz7_3, hfz7_4, hfz7_5, hfz7_6⟩ := zc7_ BK215))
  refine bodyPost_ret (results_ct rfl _ _ gb215 34 #[.slice none 0 0, .int .i64 0, .int .i64 0, .int .i64 0, .int .i64 0, .int .i64 0, .int .i64 0] (0, 0) _ rfl (by exact fB_ BK215) Try.underlying34 rfl (by kernel_rfl)) rfl ?_
  exact ⟨_, er_, by first | exact Kd.S_nil _ _ _ _ _ | exact Kd.N_nil _ _ _ _ _ | exact Kd.V_nil _ _ _ _ _ | exact Kd.Q_nil _ _ _ _ _ | exact Kd.R_nil _ _ _ _ _, by repeat (first | (with_reducible first | exact HB.out | apply below_alloc | apply pw_below_drewN | apply below_drew1 | refine below_set ?_ GE214.out | refine below_set ?_ GE215.out) | exact HB.out)⟩
 ·rw [if_neg c3] at H
  have c3b0 : decide (64 < a1) = false := decide_eq_false c3
  clear c3
  by_cases c8 : 0 ≤ a1
  ·rw [if_pos c8] at H
   have c8b0 := eq_true c8
   have c8b1 : decide (0 ≤ a1) = true := decide_eq_true c8
   clear c8
   by_cases c9 : (a1 : Int).toNat ≤ 281474976710656
   ·rw [if_pos c9] at H
    have c9b0 := eq_true c9
    have c9b1 : decide ((a1 : Int).toNat ≤ 281474976710656) = true := decide_eq_true c9
    clear c9
    obtain ⟨y216, hy216⟩ : ∃ y_ : List Int, y_ = (List.replicate (a1 : Int).toNat 0) := ⟨_, rfl⟩
    replace H : ((spec_l2Append.f k l0_0 a0_1 a0_2 a0_3 a0_4 y216).bind fun bt219 => (if bt219.2.2.2.2.2 = true then ((spec_l2Bytes.f k l0_0 a0_1 a0_2 a0_3 a0_4).bind fun t229 => (if 0 ≤ a0_6 then (if a0_6 ≤ (t229.length : Int) then ((spec_l2Write.f k bt219.1 bt219.2.1 bt219.2.2.1 bt219.2.2.2.1 bt219.2.2.2.2.1 (wrap64 (a0_6 + a1)) (t229.drop (a0_6 : Int).toNat)).bind fun t236 => (some (t236, bt219.2.1, bt219.2.2.1, bt219.2.2.2.1, bt219.2.2.2.2.1, a0_5, wrap64 (a0_6 + a1), true))) else (none)) else (none))) else (some (([] : List (List Int)), 0, 0, 0, 0, 0, 0, false)))) = some (r1, r2, r3, r4, r5, r6, r7, r8) := by first | (rw [hy216]; with_reducible exact H) | (have H2_ := (Option.bind_some _ _).symm.trans H; rw [hy216]; with_reducible exact H2_) | (have H2_ := (Option.bind_some _ _).symm.trans H; with_reducible exact H2_) | with_reducible exact H | (rw [hy216]; exact H) | exact H
    have Ny216 := Aside0.mk hy216
    clear hy216
    replace H := Option.bind_eq_some_iff.mp H
    obtain ⟨⟨t219, t222, t223, t224, t225, t226⟩, A100, H⟩ := H
    replace H : (if t226 = true then ((spec_l2Bytes.f k l0_0 a0_1 a0_2 a0_3 a0_4).bind fun t229 => (if 0 ≤ a0_6 then (if a0_6 ≤ (t229.length : Int) then ((spec_l2Write.f k t219 t222 t223 t224 t225 (wrap64 (a0_6 + a1)) (t229.drop (a0_6 : Int).toNat)).bind fun t236 => (some (t236, t222, t223, t224, t225, a0_5, wrap64 (a0_6 + a1), true))) else (none)) else (none))) else (some (([] : List (List Int)), 0, 0, 0, 0, 0, 0, false))) = some (r1, r2, r3, r4, r5, r6, r7, r8) := H
    have A10 := Aside0.mk A100
    clear A100
    by_cases c11 : t226 = true
    ·subst c11
     rw [if_pos rfl] at H
     replace H := Option.bind_eq_some_iff.mp H
     obtain ⟨t229, A120, H⟩ := H
     replace H : (if 0 ≤ a0_6 then (if a0_6 ≤ (t229.length : Int) then ((spec_l2Write.f k t219 t222 t223 t224 t225 (wrap64 (a0_6 + a1)) (t229.drop (a0_6 : Int).toNat)).bind fun t236 => (some (t236, t222, t223, t224, t225, a0_5, wrap64 (a0_6 + a1), true))) else (none)) else (none)) = some (r1, r2, r3, r4, r5, r6, r7, r8) := H
     have A12 := Aside0.mk A120
     clear A120
     by_cases c13 : 0 ≤ a0_6
     ·rw [if_pos c13] at H
      have c13b0 := eq_true c13
      have c13b1 : decide (0 ≤ a0_6) = true := decide_eq_true c13
      clear c13
      by_cases c14 : a0_6 ≤ (t229.length : Int)
      ·rw [if_pos c14] at H
       have c14b0 := eq_true c14
       have c14b1 : decide (a0_6 ≤ (t229.length : Int)) = true := decide_eq_true c14
       clear c14
       obtain ⟨y232, hy232⟩ : ∃ y_ : List Int, y_ = (t229.drop (a0_6 : Int).toNat) := ⟨_, rfl⟩
       replace H : ((spec_l2Write.f k t219 t222 t223 t224 t225 (wrap64 (a0_6 + a1)) y232).bind fun t236 => (some (t236, t222, t223, t224, t225, a0_5, wrap64 (a0_6 + a1), true))) = some (r1, r2, r3, r4, r5, r6, r7, r8) := by first | (rw [hy232]; with_reducible exact H) | (have H2_ := (Option.bind_some _ _).symm.trans H; rw [hy232]; with_reducible exact H2_) | (have H2_ := (Option.bind_some _ _).symm.trans H; with_reducible exact H2_) | with_reducible exact H | (rw [hy232]; exact H) | exact H
       have Ny232 := Aside0.mk hy232
       clear hy232
       replace H := Option.bind_eq_some_iff.mp H
       obtain ⟨t236, A150, H⟩ := H
       replace H : (some (t236, t222, t223, t224, t225, a0_5, wrap64 (a0_6 + a1), true)) = some (r1, r2, r3, r4, r5, r6, r7, r8) := H
       have A15 := Aside0.mk A150
       clear A150
       simp only [Option.some.injEq, Prod.mk.injEq] at H
       obtain ⟨rfl, rfl, rfl, rfl, rfl, rfl, rfl, rfl⟩ := H
       go_enter Try.func145, Try.ntmps145
       try go_wp2_with (first | ((with_reducible refine gate_dst (N := 2) rfl ?_); refine box_event ?hg (N := 2) ?hd (cs := #[.slice A0_0 l0_0.length c0_0, .int .i64 a0_1, .int .i64 a0_2, .int .i64 a0_3, .int .i64 a0_4, .int .i64 a0_5, .int .i64 a0_6]) (t := 34) ?hr ?_; (case hd => rfl); (case hg => rfl); (case hr => exact gs_); intro gb214 hg w16 hbox hb; have BK214 := Aside0.mk (hbox); have GW214 := gE_ HB hg; have GE214 := gE_ HB hg; replace HB := Aside0.mk (below_step (by repeat (first | (with_reducible first | exact HB.out | apply ba_ | apply bn_ | apply bd_) | exact HB.out)) hb); clear hb hbox hg) | ((with_reducible refine gate_dst (N := 4) rfl ?_); refine box_event ?hg (N := 4) ?hd (cs := #[.slice none 0 0, .int .i64 0, .int .i64 0, .int .i64 0, .int .i64 0, .int .i64 0, .int .i64 0]) (t := 34) ?hr ?_; (case hd => rfl); (case hg => rfl); (case hr => exact gs_); intro gb215 hg w17 hbox hb; have BK215 := Aside0.mk (hbox); have GW215 := gE_ HB hg; have GE215 := gE_ HB hg; replace HB := Aside0.mk (below_step (by repeat (first | (with_reducible first | exact HB.out | apply ba_ | apply bn_ | apply bd_ | refine bset_ ?_ (by assumption)) | exact HB.out)) hb); have NB214_215 := nB_ BK214 hg; have NB215_214 := nA_ BK214 hg; replace BK214 := bB_ BK214 hb; clear hb hbox hg))
       replace BK214 := Aside0.mk (blk_drew BK214.out)
       replace BK215 := Aside0.mk (blk_drew BK215.out)
       replace HB := Aside0.mk (below_drew1 HB.out)
       refine start_ (n := 16) (S := fun w' => True) (ds := []) #[false, false, false, false, false, false, false, false, false, false, false, false, false, false, false, false] (by kernel_rfl) rfl rfl trivial (fun hHeld => ?_); refine with_tabW spec_l6Widen.tab3 spec_l6Widen.bits3 (fun HT_ HW_ => ?_)
       generalize w17.drew = w18 at BK214 BK215 HB hHeld ⊢
       refine pure_ (i := 0) (N := some 14) (v := ?_) (a' := ?_) #[true, false, false, false, false, false, false, false, false, false, false, false, false, false, false, false] rfl rfl (any_of HT_.out (by kernel_rfl)) (fun _ _ _ h => h) (Or.inl ⟨by rfl, ?_⟩) ?_ ?_
       rotate_left
       ·intro w'
        go_simp
        with_reducible rfl
       rotate_left
       ·simp only [Act.put, List.setIfInBounds_toArray, List.set_cons_zero, List.set_cons_succ, i64_w, i32_w]
        rfl
       refine pure_ (i := 2) (N := some 16) (v := ?_) (a' := ?_) #[true, false, true, false, false, false, false, false, false, false, false, false, false, false, false, false] rfl rfl (any_of HT_.out (by kernel_rfl)) (fun _ _ _ h => h) (Or.inl ⟨by rfl, ?_⟩) ?_ ?_
       rotate_left
       ·intro w'
        go_simp
        with_reducible rfl
       rotate_left
       ·simp only [Act.put, List.setIfInBounds_toArray, List.set_cons_zero, List.set_cons_succ, i64_w, i32_w]
        rfl
       refine pure_ (i := 4) (N := some 18) (v := ?_) (a' := ?_) #[true, false, true, false, true, false, false, false, false, false, false, false, false, false, false, false] rfl rfl (any_of HT_.out (by kernel_rfl)) (fun _ _ _ h => h) (Or.inl ⟨by rfl, ?_⟩) ?_ ?_
       rotate_left
       ·intro w'
        go_simp
        with_reducible rfl
       rotate_left
       ·simp only [Act.put, List.setIfInBounds_toArray, List.set_cons_zero, List.set_cons_succ, i64_w, i32_w]
        rfl
       refine inv_at [1, 3, 5, 6, 7, 8, 9, 10, 11, 12, 13, 14, 15] (fun a0_ b a w' => ∃ (v217 : Value) (v220 : Value) (gb227 : Nat) (gb228 : Nat) (m6_ : Value) (m7_ : Value) (m8_ : Value) (m11_ : Value) (m12_ : Value), a = putSel a0_ b [(1, 15, .agg #[.slice A0_0 l0_0.length c0_0]), (3, 17, .agg #[.int .i64 a0_1, .int .i64 a0_2, .int .i64 a0_3, .int .i64 a0_4]), (5, 19, v217), (6, 20, m6_), (7, 13, m7_), (8, 21, m8_), (9, 22, .agg #[.int .i64 t222, .int .i64 t223, .int .i64 t224, .int .i64 t225]), (10, 23, .bool true), (11, 6, m11_), (12, 7, m12_), (15, 8, .bool true)] ∧ (w'.heap[gb214]? = some (.cells #[.slice A0_0 l0_0.length c0_0, .int .i64 a0_1, .int .i64 a0_2, .int .i64 a0_3, .int .i64 a0_4, .int .i64 a0_5, .int .i64 a0_6] 34 (0, 0))) ∧ (w'.heap[gb215]? = some (.cells #[.slice none 0 0, .int .i64 0, .int .i64 0, .int .i64 0, .int .i64 0, .int .i64 0, .int .i64 0] 34 (0, 0))) ∧ (Below w.heap.size w w') ∧ (b 11 = true → b 12 = true → gb228 ≠ gb227) ∧ (b 11 = true → b 12 = true → gb227 ≠ gb228) ∧ (b 5 = true → Kd.R (Kd.int .u8) 5 w' w.heap.size (fun _ => True) v217 y216) ∧ (b 6 = true → Kd.S (Kd.slice 5 (Kd.int .u8)) 29 w' w.heap.size (fun _ => True) v220 t219) ∧ (b 11 = true → b 13 = false → w'.heap[gb227]? = some (.cells #[.slice none 0 0] 31 (0, 0))) ∧ (b 11 = true → w.heap.size ≤ gb227) ∧ (b 11 = true → w.heap.size ≤ gb227) ∧ (b 11 = true → gb214 ≠ gb227) ∧ (b 11 = true → gb227 ≠ gb214) ∧ (b 11 = true → gb215 ≠ gb227) ∧ (b 11 = true → gb227 ≠ gb215) ∧ (b 12 = true → b 14 = false → w'.heap[gb228]? = some (.cells #[.int .i64 0, .int .i64 0, .int .i64 0, .int .i64 0] 32 (0, 0))) ∧ (b 12 = true → w.heap.size ≤ gb228) ∧ (b 12 = true → w.heap.size ≤ gb228) ∧ (b 12 = true → gb214 ≠ gb228) ∧ (b 12 = true → gb228 ≠ gb214) ∧ (b 12 = true → gb215 ≠ gb228) ∧ (b 12 = true → gb228 ≠ gb215) ∧ (b 13 = true → w'.heap[gb227]? = some (.cells #[v220] 31 (0, 0))) ∧ (b 14 = true → w'.heap[gb228]? = some (.cells #[.int .i64 t222, .int .i64 t223, .int .i64 t224, .int .i64 t225] 32 (0, 0))) ∧ (b 6 = true → (m6_ : Value) = .tuple #[.agg #[v220], .agg #[.int .i64 t222, .int .i64 t223, .int .i64 t224, .int .i64 t225], .bool true]) ∧ (b 7 = true → (m7_ : Value) = .tuple #[.agg #[v220], .agg #[.int .i64 t222, .int .i64 t223, .int .i64 t224, .int .i64 t225], .bool true]) ∧ (b 8 = true → (m8_ : Value) = .agg #[v220]) ∧ (b 11 = true → (m11_ : Value) = .pointer (some ⟨gb227, 0, none⟩)) ∧ (b 12 = true → (m12_ : Value) = .pointer (some ⟨gb228, 0, none⟩))) HT_.out HW_.out (by kernel_rfl) (by kernel_rfl) ?_ ?_ ?_
       ·exact ⟨.bool false, .bool false, 0, 0, .bool false, .bool false, .bool false, .bool false, .bool false, by simp only [putSel, Bool.false_eq_true, if_false], BK214.out, BK215.out, HB.out, fun h_ => absurd h_ (by decide), fun h_ => absurd h_ (by decide), fun h_ => absurd h_ (by decide), fun h_ => absurd h_ (by decide), fun h_ => absurd h_ (by decide), fun h_ => absurd h_ (by decide), fun h_ => absurd h_ (by decide), fun h_ => absurd h_ (by decide), fun h_ => absurd h_ (by decide), fun h_ => absurd h_ (by decide), fun h_ => absurd h_ (by decide), fun h_ => absurd h_ (by decide), fun h_ => absurd h_ (by decide), fun h_ => absurd h_ (by decide), fun h_ => absurd h_ (by decide), fun h_ => absurd h_ (by decide), fun h_ => absurd h_ (by decide), fun h_ => absurd h_ (by decide), fun h_ => absurd h_ (by decide), fun h_ => absurd h_ (by decide), fun h_ => absurd h_ (by decide), fun h_ => absurd h_ (by decide), fun h_ => absurd h_ (by decide), fun h_ => absurd h_ (by decide), fun h_ => absurd h_ (by decide)⟩
       ·skip
        clear BK214 BK215 HB
        refine steps_cons ?_ ?_
        ·rintro b a w' ⟨v217, v220, gb227, gb228, m6_, m7_, m8_, m11_, m12_, ha, Q_BK214, Q_BK215, Q_HB, Q_NB228_227, Q_NB227_228, Q_HO218, Q_HO221, Q_BK227, Q_GW227, Q_GE227, Q_NB214_227, Q_NB227_214, Q_NB215_227, Q_NB227_215, Q_BK228, Q_GW228, Q_GE228, Q_NB214_228, Q_NB228_214, Q_NB215_228, Q_NB228_215, Q_BK227_e13, Q_BK228_e14, Q_X6_, Q_X7_, Q_X8_, Q_X11_, Q_X12_⟩ hb_ hon hoff
         refine ⟨_, rfl, fun K hK => ?_⟩
         have e14 : a.tmps[14]? = some (.pointer (some ⟨gb214, 0, none⟩)) := by rw [ha]; exact (putSel_off rfl).trans rfl
         replace ha := Aside0.mk ha
         have BK214 := Aside0.mk Q_BK214
         have BK215 := Aside0.mk Q_BK215
         have HB := Aside0.mk Q_HB
         have hc0_ : w'.cell? ⟨gb214, 0, none⟩ = some (.slice A0_0 l0_0.length c0_0) := (blk_cell BK214.out 0).trans rfl
         have hc1_ : w'.cell? ⟨gb214, 1, none⟩ = some (.int .i64 a0_1) := (blk_cell BK214.out 1).trans rfl
         have hc2_ : w'.cell? ⟨gb214, 2, none⟩ = some (.int .i64 a0_2) := (blk_cell BK214.out 2).trans rfl
         have hc3_ : w'.cell? ⟨gb214, 3, none⟩ = some (.int .i64 a0_3) := (blk_cell BK214.out 3).trans rfl
         have hc4_ : w'.cell? ⟨gb214, 4, none⟩ = some (.int .i64 a0_4) := (blk_cell BK214.out 4).trans rfl
         have hc5_ : w'.cell? ⟨gb214, 5, none⟩ = some (.int .i64 a0_5) := (blk_cell BK214.out 5).trans rfl
         have hc6_ : w'.cell? ⟨gb214, 6, none⟩ = some (.int .i64 a0_6) := (blk_cell BK214.out 6).trans rfl
         refine value_ (w1 := w') (v := .agg #[.slice A0_0 l0_0.length c0_0]) (by rfl) rfl ?_ ?_
         ·go_simp
          (try simp only [i64_w])
          try rfl
         refine hK.out _ _ ⟨v217, v220, gb227, gb228, m6_, m7_, m8_, m11_, m12_, (by rw [ha.out]; exact putSel_upk 0 hb_ rfl rfl rfl), Q_BK214, Q_BK215, Q_HB, Q_NB228_227, Q_NB227_228, Q_HO218, fun h0_ => absurd ((hoff 6 (by kernel_rfl)).symm.trans h0_) (by decide), Q_BK227, Q_GW227, Q_GE227, Q_NB214_227, Q_NB227_214, Q_NB215_227, Q_NB227_215, Q_BK228, Q_GW228, Q_GE228, Q_NB214_228, Q_NB228_214, Q_NB215_228, Q_NB228_215, fun h0_ => absurd ((hoff 13 (by kernel_rfl)).symm.trans h0_) (by decide), fun h0_ => absurd ((hoff 14 (by kernel_rfl)).symm.trans h0_) (by decide), fun h0_ => absurd ((hoff 6 (by kernel_rfl)).symm.trans h0_) (by decide), fun h0_ => absurd ((hoff 7 (by kernel_rfl)).symm.trans h0_) (by decide), fun h0_ => absurd ((hoff 8 (by kernel_rfl)).symm.trans h0_) (by decide), Q_X11_, Q_X12_⟩
        refine steps_cons ?_ ?_
        ·rintro b a w' ⟨v217, v220, gb227, gb228, m6_, m7_, m8_, m11_, m12_, ha, Q_BK214, Q_BK215, Q_HB, Q_NB228_227, Q_NB227_228, Q_HO218, Q_HO221, Q_BK227, Q_GW227, Q_GE227, Q_NB214_227, Q_NB227_214, Q_NB215_227, Q_NB227_215, Q_BK228, Q_GW228, Q_GE228, Q_NB214_228, Q_NB228_214, Q_NB215_228, Q_NB228_215, Q_BK227_e13, Q_BK228_e14, Q_X6_, Q_X7_, Q_X8_, Q_X11_, Q_X12_⟩ hb_ hon hoff
         refine ⟨_, rfl, fun K hK => ?_⟩
         have e16 : a.tmps[16]? = some (.pointer (some ⟨gb214, 1, none⟩)) := by rw [ha]; exact (putSel_off rfl).trans rfl
         replace ha := Aside0.mk ha
         have BK214 := Aside0.mk Q_BK214
         have BK215 := Aside0.mk Q_BK215
         have HB := Aside0.mk Q_HB
         have hc0_ : w'.cell? ⟨gb214, 0, none⟩ = some (.slice A0_0 l0_0.length c0_0) := (blk_cell BK214.out 0).trans rfl
         have hc1_ : w'.cell? ⟨gb214, 1, none⟩ = some (.int .i64 a0_1) := (blk_cell BK214.out 1).trans rfl
         have hc2_ : w'.cell? ⟨gb214, 2, none⟩ = some (.int .i64 a0_2) := (blk_cell BK214.out 2).trans rfl
         have hc3_ : w'.cell? ⟨gb214, 3, none⟩ = some (.int .i64 a0_3) := (blk_cell BK214.out 3).trans rfl
         have hc4_ : w'.cell? ⟨gb214, 4, none⟩ = some (.int .i64 a0_4) := (blk_cell BK214.out 4).trans rfl
         have hc5_ : w'.cell? ⟨gb214, 5, none⟩ = some (.int .i64 a0_5) := (blk_cell BK214.out 5).trans rfl
         have hc6_ : w'.cell? ⟨gb214, 6, none⟩ = some (.int .i64 a0_6) := (blk_cell BK214.out 6).trans rfl
         refine value_ (w1 := w') (v := .agg #[.int .i64 a0_1, .int .i64 a0_2, .int .i64 a0_3, .int .i64 a0_4]) (by rfl) rfl ?_ ?_
         ·go_simp
          (try simp only [i64_w])
          try rfl
         refine hK.out _ _ ⟨v217, v220, gb227, gb228, m6_, m7_, m8_, m11_, m12_, (by rw [ha.out]; exact putSel_upk 1 hb_ rfl rfl rfl), Q_BK214, Q_BK215, Q_HB, Q_NB228_227, Q_NB227_228, Q_HO218, fun h0_ => absurd ((hoff 6 (by kernel_rfl)).symm.trans h0_) (by decide), Q_BK227, Q_GW227, Q_GE227, Q_NB214_227, Q_NB227_214, Q_NB215_227, Q_NB227_215, Q_BK228, Q_GW228, Q_GE228, Q_NB214_228, Q_NB228_214, Q_NB215_228, Q_NB228_215, fun h0_ => absurd ((hoff 13 (by kernel_rfl)).symm.trans h0_) (by decide), fun h0_ => absurd ((hoff 14 (by kernel_rfl)).symm.trans h0_) (by decide), fun h0_ => absurd ((hoff 6 (by kernel_rfl)).symm.trans h0_) (by decide), fun h0_ => absurd ((hoff 7 (by kernel_rfl)).symm.trans h0_) (by decide), fun h0_ => absurd ((hoff 8 (by kernel_rfl)).symm.trans h0_) (by decide), Q_X11_, Q_X12_⟩
        refine steps_cons ?_ ?_
        ·rintro b a w' ⟨v217, v220, gb227, gb228, m6_, m7_, m8_, m11_, m12_, ha, Q_BK214, Q_BK215, Q_HB, Q_NB228_227, Q_NB227_228, Q_HO218, Q_HO221, Q_BK227, Q_GW227, Q_GE227, Q_NB214_227, Q_NB227_214, Q_NB215_227, Q_NB227_215, Q_BK228, Q_GW228, Q_GE228, Q_NB214_228, Q_NB228_214, Q_NB215_228, Q_NB228_215, Q_BK227_e13, Q_BK228_e14, Q_X6_, Q_X7_, Q_X8_, Q_X11_, Q_X12_⟩ hb_ hon hoff
         refine ⟨_, rfl, fun K hK => ?_⟩
         have e18 : a.tmps[18]? = some (.int .i64 a1) := by rw [ha]; exact (putSel_off rfl).trans rfl
         replace ha := Aside0.mk ha
         have BK214 := Aside0.mk Q_BK214
         have BK215 := Aside0.mk Q_BK215
         have HB := Aside0.mk Q_HB
         refine Kd.R_make_step (Kd.int .u8) _ 5 (by rfl) (N := 19) rfl 29 _ _ rfl a1 (by first | rfl | (simp [Act.eval, e18]; done)) (by first | rfl | (simp [Act.eval, e18]; done)) Try.underlying29 (.int .u8 0) 1 info5 rfl (by decide) (by omega) 0 (ok := fun _ => True) (okp := fun _ => True) rfl (fun _ hk => hk) trivial (of_decide_eq_true as_) (Nat.le_trans (Nat.mul_le_mul_right _ (of_decide_eq_true as_ : a1.toNat ≤ 281474976710656)) (by omega)) (Below.refl _ _) (Nat.le_refl _) ?_
         intro v217 w19 ho20 hb hg_ hnew_
         clear hg_ hnew_
         (first | rw [← Ny216.out] at ho20 | (simp only [Int.reduceToNat] at ho20; rw [← Ny216.out] at ho20))
         have n0_ := Aside0.mk (rL_ ho20 HB)
         have n1_ := bB_ BK214 hb
         have n2_ := bB_ BK215 hb
         have n3_ := Aside0.mk (below_step (by repeat (first | (with_reducible first | exact HB.out | apply ba_ | apply bn_ | apply bd_ | refine bset_ ?_ (by assumption)) | exact HB.out)) hb)
         have z_BK227 := fun (h0_ : b 11 = true) (h1_ : b 13 = false) => (show w19.heap[gb227]? = some (.cells #[.slice none 0 0] 31 (0, 0)) from by first | exact (blk_below (g := gb227) (o := .cells #[.slice none 0 0] 31 (0, 0)) (by (with_reducible repeat first | apply kb1_ | apply kb2_ | apply kb3_); exact (Q_BK227 h0_ h1_)) hb))
         have z_BK228 := fun (h0_ : b 12 = true) (h1_ : b 14 = false) => (show w19.heap[gb228]? = some (.cells #[.int .i64 0, .int .i64 0, .int .i64 0, .int .i64 0] 32 (0, 0)) from by first | exact (blk_below (g := gb228) (o := .cells #[.int .i64 0, .int .i64 0, .int .i64 0, .int .i64 0] 32 (0, 0)) (by (with_reducible repeat first | apply kb1_ | apply kb2_ | apply kb3_); exact (Q_BK228 h0_ h1_)) hb))
         clear BK214
         clear BK215
         clear HB
         have HO218 := n0_
         have BK214 := n1_
         have BK215 := n2_
         have HB := n3_
         clear n0_ n1_ n2_ n3_
         clear hb ho20
         refine hK.out _ _ ⟨v217, v220, gb227, gb228, m6_, m7_, m8_, m11_, m12_, (by rw [ha.out]; exact putSel_upk 2 hb_ rfl rfl rfl), (bK_ BK214), (bK_ BK215), (by repeat (first | (with_reducible first | exact HB.out | apply ba_ | apply bn_ | apply bd_ | refine bset_ ?_ (by assumption)) | exact HB.out)), Q_NB228_227, Q_NB227_228, fun _ => (rK_ HO218), fun h0_ => absurd ((hoff 6 (by kernel_rfl)).symm.trans h0_) (by decide), z_BK227, Q_GW227, Q_GE227, Q_NB214_227, Q_NB227_214, Q_NB215_227, Q_NB227_215, z_BK228, Q_GW228, Q_GE228, Q_NB214_228, Q_NB228_214, Q_NB215_228, Q_NB228_215, fun h0_ => absurd ((hoff 13 (by kernel_rfl)).symm.trans h0_) (by decide), fun h0_ => absurd ((hoff 14 (by kernel_rfl)).symm.trans h0_) (by decide), fun h0_ => absurd ((hoff 6 (by kernel_rfl)).symm.trans h0_) (by decide), fun h0_ => absurd ((hoff 7 (by kernel_rfl)).symm.trans h0_) (by decide), fun h0_ => absurd ((hoff 8 (by kernel_rfl)).symm.trans h0_) (by decide), Q_X11_, Q_X12_⟩
        refine steps_cons ?_ ?_
        ·rintro b a w' ⟨v217, v220, gb227, gb228, m6_, m7_, m8_, m11_, m12_, ha, Q_BK214, Q_BK215, Q_HB, Q_NB228_227, Q_NB227_228, Q_HO218, Q_HO221, Q_BK227, Q_GW227, Q_GE227, Q_NB214_227, Q_NB227_214, Q_NB215_227, Q_NB227_215, Q_BK228, Q_GW228, Q_GE228, Q_NB214_228, Q_NB228_214, Q_NB215_228, Q_NB228_215, Q_BK227_e13, Q_BK228_e14, Q_X6_, Q_X7_, Q_X8_, Q_X11_, Q_X12_⟩ hb_ hon hoff
         refine ⟨_, rfl, fun K hK => ?_⟩
         have e15 : a.tmps[15]? = some (.agg #[.slice A0_0 l0_0.length c0_0]) := by rw [ha]; exact putSel_on (e := (1, 15, .agg #[.slice A0_0 l0_0.length c0_0])) 0 rfl rfl (hon 1 (by kernel_rfl)) rfl
         have e17 : a.tmps[17]? = some (.agg #[.int .i64 a0_1, .int .i64 a0_2, .int .i64 a0_3, .int .i64 a0_4]) := by rw [ha]; exact putSel_on (e := (3, 17, .agg #[.int .i64 a0_1, .int .i64 a0_2, .int .i64 a0_3, .int .i64 a0_4])) 1 rfl rfl (hon 3 (by kernel_rfl)) rfl
         have e19 : a.tmps[19]? = some (v217) := by rw [ha]; exact putSel_on (e := (5, 19, v217)) 2 rfl rfl (hon 5 (by kernel_rfl)) rfl
         replace ha := Aside0.mk ha
         have BK214 := Aside0.mk Q_BK214
         have BK215 := Aside0.mk Q_BK215
         have HB := Aside0.mk Q_HB
         have HO218 := Aside0.mk (Q_HO218 (hon 5 (by kernel_rfl)))
         obtain ⟨Ao22, co22, eo22⟩ := Kd.R_slice HO218.out
         (first | subst eo22 | (injection eo22 with f1_ f2_ f3_; have f4_ := f1_.symm; have f5_ := f3_.symm; clear f1_ f2_ f3_; subst f4_; subst f5_))
         refine goes_ Try.func184 (by kernel_rfl) rfl #[.agg #[.slice A0_0 l0_0.length c0_0], .agg #[.int .i64 a0_1, .int .i64 a0_2, .int .i64 a0_3, .int .i64 a0_4], .slice Ao22 y216.length co22] (by rfl) rfl rfl (by first | (simp only [List.map_toArray, List.map_cons, List.map_nil, Act.eval, Array.getD_eq_getD_getElem?, Option.getD_some, e15, e17, e19]; done) | (simp only [List.map_toArray, List.map_cons, List.map_nil, Act.eval, Array.getD_eq_getD_getElem?, Option.getD_some, e15, e17, e19]; rfl)) ?_
         with_reducible refine (spec_l2Append.calls k _ _ l0_0 a0_1 a0_2 a0_3 a0_4 _ _ y216 t219 t222 t223 t224 t225 true _ ?side1 ?side2 ?side3 ?side4 A10.out).mono ?_
         (case side1 => exact cS_ (Kd.C_below HR0_0.out HB.out))
         (case side2 => exact HC0_0.out)
         (case side3 => repeat (first | exact (Kd.R_reads' HO218.out).2.2 | (with_reducible refine Kd.C_alloc ?_ _) | (with_reducible refine Kd.C_drewN ?_ _) | (with_reducible refine Kd.C_drew ?_)))
         (case side4 => exact (Kd.R_reads' HO218.out).2.1)
         rintro e w23 ⟨v220, rfl, ho0, hb⟩
         refine ⟨_, rfl, ?_⟩
         have n0_ := Aside0.mk (Kd.R_below (rK_ HO218) hb)
         have n1_ := Aside0.mk (sL_ (Kd.S_new' ho0 (Kd.R_lt (rK_ HO218))) HB)
         have n2_ := bB_ BK214 hb
         have n3_ := bB_ BK215 hb
         have n4_ := Aside0.mk (below_step (by repeat (first | (with_reducible first | exact HB.out | apply ba_ | apply bn_ | apply bd_ | refine bset_ ?_ (by assumption)) | exact HB.out)) hb)
         have z_BK227 := fun (h0_ : b 11 = true) (h1_ : b 13 = false) => (show w23.heap[gb227]? = some (.cells #[.slice none 0 0] 31 (0, 0)) from by first | exact (blk_below (g := gb227) (o := .cells #[.slice none 0 0] 31 (0, 0)) (by (with_reducible repeat first | apply kb1_ | apply kb2_ | apply kb3_); exact (Q_BK227 h0_ h1_)) hb))
         have z_BK228 := fun (h0_ : b 12 = true) (h1_ : b 14 = false) => (show w23.heap[gb228]? = some (.cells #[.int .i64 0, .int .i64 0, .int .i64 0, .int .i64 0] 32 (0, 0)) from by first | exact (blk_below (g := gb228) (o := .cells #[.int .i64 0, .int .i64 0, .int .i64 0, .int .i64 0] 32 (0, 0)) (by (with_reducible repeat first | apply kb1_ | apply kb2_ | apply kb3_); exact (Q_BK228 h0_ h1_)) hb))
         clear HO218
         clear BK214
         clear BK215
         clear HB
         have HO218 := n0_
         have HO221 := n1_
         have BK214 := n2_
         have BK215 := n3_
         have HB := n4_
         clear n0_ n1_ n2_ n3_ n4_
         (try clear hb)
         (try clear hb2)
         (try clear hk)
         (try clear hi)
         (try clear ho0)
         refine hK.out _ _ ⟨.slice Ao22 y216.length co22, v220, gb227, gb228, (.tuple #[.agg #[v220], .agg #[.int .i64 t222, .int .i64 t223, .int .i64 t224, .int .i64 t225], .bool true]), m7_, m8_, m11_, m12_, (by rw [ha.out]; exact putSel_upk 3 hb_ rfl rfl rfl), (bK_ BK214), (bK_ BK215), (by repeat (first | (with_reducible first | exact HB.out | apply ba_ | apply bn_ | apply bd_ | refine bset_ ?_ (by assumption)) | exact HB.out)), Q_NB228_227, Q_NB227_228, fun _ => (rK_ HO218), fun _ => (by (with_reducible repeat first | apply ks1_ | apply ks2_ | apply ks3_); exact Kd.S_mono HO221.out (fun _ hk => by first | exact hk.2 | trivial | exact hk.1)), z_BK227, Q_GW227, Q_GE227, Q_NB214_227, Q_NB227_214, Q_NB215_227, Q_NB227_215, z_BK228, Q_GW228, Q_GE228, Q_NB214_228, Q_NB228_214, Q_NB215_228, Q_NB228_215, fun h0_ => absurd ((hoff 13 (by kernel_rfl)).symm.trans h0_) (by decide), fun h0_ => absurd ((hoff 14 (by kernel_rfl)).symm.trans h0_) (by decide), fun _ => rfl, fun h0_ => absurd ((hoff 7 (by kernel_rfl)).symm.trans h0_) (by decide), fun h0_ => absurd ((hoff 8 (by kernel_rfl)).symm.trans h0_) (by decide), Q_X11_, Q_X12_⟩
        refine steps_cons ?_ ?_
        ·rintro b a w' ⟨v217, v220, gb227, gb228, m6_, m7_, m8_, m11_, m12_, ha, Q_BK214, Q_BK215, Q_HB, Q_NB228_227, Q_NB227_228, Q_HO218, Q_HO221, Q_BK227, Q_GW227, Q_GE227, Q_NB214_227, Q_NB227_214, Q_NB215_227, Q_NB227_215, Q_BK228, Q_GW228, Q_GE228, Q_NB214_228, Q_NB228_214, Q_NB215_228, Q_NB228_215, Q_BK227_e13, Q_BK228_e14, Q_X6_, Q_X7_, Q_X8_, Q_X11_, Q_X12_⟩ hb_ hon hoff
         refine ⟨_, rfl, fun K hK => ?_⟩
         have e20 : a.tmps[20]? = some (m6_) := by rw [ha]; exact putSel_on (e := (6, 20, m6_)) 3 rfl rfl (hon 6 (by kernel_rfl)) rfl
         rw [Q_X6_ (hon 6 (by kernel_rfl))] at e20
         replace ha := Aside0.mk ha
         have BK214 := Aside0.mk Q_BK214
         have BK215 := Aside0.mk Q_BK215
         have HB := Aside0.mk Q_HB
         have HO218 := Aside0.mk (Q_HO218 (hon 5 (by kernel_rfl)))
         have HO221 := Aside0.mk (Q_HO221 (hon 6 (by kernel_rfl)))
         refine value_ (w1 := w') (v := .tuple #[.agg #[v220], .agg #[.int .i64 t222, .int .i64 t223, .int .i64 t224, .int .i64 t225], .bool true]) (by rfl) rfl ?_ ?_
         ·go_simp
          (try simp only [i64_w])
          try rfl
         refine hK.out _ _ ⟨v217, v220, gb227, gb228, m6_, (.tuple #[.agg #[v220], .agg #[.int .i64 t222, .int .i64 t223, .int .i64 t224, .int .i64 t225], .bool true]), m8_, m11_, m12_, (by rw [ha.out]; exact putSel_upk 4 hb_ rfl rfl rfl), Q_BK214, Q_BK215, Q_HB, Q_NB228_227, Q_NB227_228, Q_HO218, Q_HO221, Q_BK227, Q_GW227, Q_GE227, Q_NB214_227, Q_NB227_214, Q_NB215_227, Q_NB227_215, Q_BK228, Q_GW228, Q_GE228, Q_NB214_228, Q_NB228_214, Q_NB215_228, Q_NB228_215, fun h0_ => absurd ((hoff 13 (by kernel_rfl)).symm.trans h0_) (by decide), fun h0_ => absurd ((hoff 14 (by kernel_rfl)).symm.trans h0_) (by decide), Q_X6_, fun _ => rfl, fun h0_ => absurd ((hoff 8 (by kernel_rfl)).symm.trans h0_) (by decide), Q_X11_, Q_X12_⟩
        refine steps_cons ?_ ?_
        ·rintro b a w' ⟨v217, v220, gb227, gb228, m6_, m7_, m8_, m11_, m12_, ha, Q_BK214, Q_BK215, Q_HB, Q_NB228_227, Q_NB227_228, Q_HO218, Q_HO221, Q_BK227, Q_GW227, Q_GE227, Q_NB214_227, Q_NB227_214, Q_NB215_227, Q_NB227_215, Q_BK228, Q_GW228, Q_GE228, Q_NB214_228, Q_NB228_214, Q_NB215_228, Q_NB228_215, Q_BK227_e13, Q_BK228_e14, Q_X6_, Q_X7_, Q_X8_, Q_X11_, Q_X12_⟩ hb_ hon hoff
         refine ⟨_, rfl, fun K hK => ?_⟩
         have e13 : a.tmps[13]? = some (m7_) := by rw [ha]; exact putSel_on (e := (7, 13, m7_)) 4 rfl rfl (hon 7 (by kernel_rfl)) rfl
         rw [Q_X7_ (hon 7 (by kernel_rfl))] at e13
         replace ha := Aside0.mk ha
         have BK214 := Aside0.mk Q_BK214
         have BK215 := Aside0.mk Q_BK215
         have HB := Aside0.mk Q_HB
         have HO218 := Aside0.mk (Q_HO218 (hon 5 (by kernel_rfl)))
         have HO221 := Aside0.mk (Q_HO221 (hon 6 (by kernel_rfl)))
         refine value_ (w1 := w') (v := .agg #[v220]) (by rfl) rfl ?_ ?_
         ·go_simp
          (try simp only [i64_w])
          try rfl
         refine hK.out _ _ ⟨v217, v220, gb227, gb228, m6_, m7_, (.agg #[v220]), m11_, m12_, (by rw [ha.out]; exact putSel_upk 5 hb_ rfl rfl rfl), Q_BK214, Q_BK215, Q_HB, Q_NB228_227, Q_NB227_228, Q_HO218, Q_HO221, Q_BK227, Q_GW227, Q_GE227, Q_NB214_227, Q_NB227_214, Q_NB215_227, Q_NB227_215, Q_BK228, Q_GW228, Q_GE228, Q_NB214_228, Q_NB228_214, Q_NB215_228, Q_NB228_215, fun h0_ => absurd ((hoff 13 (by kernel_rfl)).symm.trans h0_) (by decide), fun h0_ => absurd ((hoff 14 (by kernel_rfl)).symm.trans h0_) (by decide), Q_X6_, Q_X7_, fun _ => rfl, Q_X11_, Q_X12_⟩
        refine steps_cons ?_ ?_
        ·rintro b a w' ⟨v217, v220, gb227, gb228, m6_, m7_, m8_, m11_, m12_, ha, Q_BK214, Q_BK215, Q_HB, Q_NB228_227, Q_NB227_228, Q_HO218, Q_HO221, Q_BK227, Q_GW227, Q_GE227, Q_NB214_227, Q_NB227_214, Q_NB215_227, Q_NB227_215, Q_BK228, Q_GW228, Q_GE228, Q_NB214_228, Q_NB228_214, Q_NB215_228, Q_NB228_215, Q_BK227_e13, Q_BK228_e14, Q_X6_, Q_X7_, Q_X8_, Q_X11_, Q_X12_⟩ hb_ hon hoff
         refine ⟨_, rfl, fun K hK => ?_⟩
         have e13 : a.tmps[13]? = some (m7_) := by rw [ha]; exact putSel_on (e := (7, 13, m7_)) 4 rfl rfl (hon 7 (by kernel_rfl)) rfl
         rw [Q_X7_ (hon 7 (by kernel_rfl))] at e13
         replace ha := Aside0.mk ha
         have BK214 := Aside0.mk Q_BK214
         have BK215 := Aside0.mk Q_BK215
         have HB := Aside0.mk Q_HB
         have HO218 := Aside0.mk (Q_HO218 (hon 5 (by kernel_rfl)))
         have HO221 := Aside0.mk (Q_HO221 (hon 6 (by kernel_rfl)))
         refine value_ (w1 := w') (v := .agg #[.int .i64 t222, .int .i64 t223, .int .i64 t224, .int .i64 t225]) (by rfl) rfl ?_ ?_
         ·go_simp
          (try simp only [i64_w])
          try rfl
         refine hK.out _ _ ⟨v217, v220, gb227, gb228, m6_, m7_, m8_, m11_, m12_, (by rw [ha.out]; exact putSel_upk 6 hb_ rfl rfl rfl), Q_BK214, Q_BK215, Q_HB, Q_NB228_227, Q_NB227_228, Q_HO218, Q_HO221, Q_BK227, Q_GW227, Q_GE227, Q_NB214_227, Q_NB227_214, Q_NB215_227, Q_NB227_215, Q_BK228, Q_GW228, Q_GE228, Q_NB214_228, Q_NB228_214, Q_NB215_228, Q_NB228_215, Q_BK227_e13, fun h0_ => absurd ((hoff 14 (by kernel_rfl)).symm.trans h0_) (by decide), Q_X6_, Q_X7_, Q_X8_, Q_X11_, Q_X12_⟩
        refine steps_cons ?_ ?_
        ·rintro b a w' ⟨v217, v220, gb227, gb228, m6_, m7_, m8_, m11_, m12_, ha, Q_BK214, Q_BK215, Q_HB, Q_NB228_227, Q_NB227_228, Q_HO218, Q_HO221, Q_BK227, Q_GW227, Q_GE227, Q_NB214_227, Q_NB227_214, Q_NB215_227, Q_NB227_215, Q_BK228, Q_GW228, Q_GE228, Q_NB214_228, Q_NB228_214, Q_NB215_228, Q_NB228_215, Q_BK227_e13, Q_BK228_e14, Q_X6_, Q_X7_, Q_X8_, Q_X11_, Q_X12_⟩ hb_ hon hoff
         refine ⟨_, rfl, fun K hK => ?_⟩
         have e13 : a.tmps[13]? = some (m7_) := by rw [ha]; exact putSel_on (e := (7, 13, m7_)) 4 rfl rfl (hon 7 (by kernel_rfl)) rfl
         rw [Q_X7_ (hon 7 (by kernel_rfl))] at e13
         replace ha := Aside0.mk ha
         have BK214 := Aside0.mk Q_BK214
         have BK215 := Aside0.mk Q_BK215
         have HB := Aside0.mk Q_HB
         have HO218 := Aside0.mk (Q_HO218 (hon 5 (by kernel_rfl)))
         have HO221 := Aside0.mk (Q_HO221 (hon 6 (by kernel_rfl)))
         refine value_ (w1 := w') (v := .bool true) (by rfl) rfl ?_ ?_
         ·go_simp
          (try simp only [i64_w])
          try rfl
         refine hK.out _ _ ⟨v217, v220, gb227, gb228, m6_, m7_, m8_, m11_, m12_, (by rw [ha.out]; exact putSel_upk 7 hb_ rfl rfl rfl), Q_BK214, Q_BK215, Q_HB, Q_NB228_227, Q_NB227_228, Q_HO218, Q_HO221, Q_BK227, Q_GW227, Q_GE227, Q_NB214_227, Q_NB227_214, Q_NB215_227, Q_NB227_215, Q_BK228, Q_GW228, Q_GE228, Q_NB214_228, Q_NB228_214, Q_NB215_228, Q_NB228_215, Q_BK227_e13, Q_BK228_e14, Q_X6_, Q_X7_, Q_X8_, Q_X11_, Q_X12_⟩
        refine steps_cons ?_ ?_
        ·rintro b a w' ⟨v217, v220, gb227, gb228, m6_, m7_, m8_, m11_, m12_, ha, Q_BK214, Q_BK215, Q_HB, Q_NB228_227, Q_NB227_228, Q_HO218, Q_HO221, Q_BK227, Q_GW227, Q_GE227, Q_NB214_227, Q_NB227_214, Q_NB215_227, Q_NB227_215, Q_BK228, Q_GW228, Q_GE228, Q_NB214_228, Q_NB228_214, Q_NB215_228, Q_NB228_215, Q_BK227_e13, Q_BK228_e14, Q_X6_, Q_X7_, Q_X8_, Q_X11_, Q_X12_⟩ hb_ hon hoff
         refine ⟨_, rfl, fun K hK => ?_⟩
         replace ha := Aside0.mk ha
         have BK214 := Aside0.mk Q_BK214
         have BK215 := Aside0.mk Q_BK215
         have HB := Aside0.mk Q_HB
         refine box_step ?hg (N := 6) ?hd (cs := #[.slice none 0 0]) (t := 31) ?hr ?_; (case hd => rfl); (case hg => rfl); (case hr => exact gs_)
         intro gb227 hg w19 hbox hb
         have n0_ := bB_ BK214 hb
         have n1_ := bB_ BK215 hb
         have n2_ := Aside0.mk (below_step (by repeat (first | (with_reducible first | exact HB.out | apply ba_ | apply bn_ | apply bd_ | refine bset_ ?_ (by assumption)) | exact HB.out)) hb)
         have n3_ := Aside0.mk (hbox)
         have n4_ := gE_ HB hg
         have n5_ := gE_ HB hg
         have n6_ := nB_ BK214 hg
         have n7_ := nA_ BK214 hg
         have n8_ := nB_ BK215 hg
         have n9_ := nA_ BK215 hg
         have z_NB228_227 := fun (h0_ : up b 11 11 = true) (h1_ : up b 11 12 = true) => (show gb228 ≠ gb227 from (by rw [hg]; exact Nat.ne_of_lt (by cases h9_ : b 14 with | false => exact blk_lt (Q_BK228 (by simpa [up] using h1_) h9_) | true => exact blk_lt (Q_BK228_e14 h9_))))
         have z_NB227_228 := fun (h0_ : up b 11 11 = true) (h1_ : up b 11 12 = true) => (show gb227 ≠ gb228 from (by rw [hg]; exact Nat.ne_of_gt (by cases h9_ : b 14 with | false => exact blk_lt (Q_BK228 (by simpa [up] using h1_) h9_) | true => exact blk_lt (Q_BK228_e14 h9_))))
         have z_HO218 := fun (h0_ : b 5 = true) => (show Kd.R (Kd.int .u8) 5 w19 w.heap.size (fun _ => True) v217 y216 from by first | exact (Kd.R_below (by (with_reducible repeat first | apply kr1_ | apply kr2_ | apply kr3_); exact (Q_HO218 h0_)) hb) | exact Kd.R_mono (Kd.R_below (by (with_reducible repeat first | apply kr1_ | apply kr2_ | apply kr3_); exact (Q_HO218 h0_)) hb) (fun _ h_ => by first | trivial | exact h_ | exact h_.1))
         have z_HO221 := fun (h0_ : b 6 = true) => (show Kd.S (Kd.slice 5 (Kd.int .u8)) 29 w19 w.heap.size (fun _ => True) v220 t219 from by first | exact (Kd.S_below (by (with_reducible repeat first | apply ks1_ | apply ks2_ | apply ks3_); exact (Q_HO221 h0_)) hb) | exact Kd.S_mono (Kd.S_below (by (with_reducible repeat first | apply ks1_ | apply ks2_ | apply ks3_); exact (Q_HO221 h0_)) hb) (fun _ h_ => by first | trivial | exact h_ | exact h_.1))
         have z_BK228 := fun (h0_ : b 12 = true) (h1_ : b 14 = false) => (show w19.heap[gb228]? = some (.cells #[.int .i64 0, .int .i64 0, .int .i64 0, .int .i64 0] 32 (0, 0)) from by first | exact (blk_below (g := gb228) (o := .cells #[.int .i64 0, .int .i64 0, .int .i64 0, .int .i64 0] 32 (0, 0)) (by (with_reducible repeat first | apply kb1_ | apply kb2_ | apply kb3_); exact (Q_BK228 h0_ h1_)) hb))
         clear BK214
         clear BK215
         clear HB
         have BK214 := n0_
         have BK215 := n1_
         have HB := n2_
         have BK227 := n3_
         have GW227 := n4_
         have GE227 := n5_
         have NB214_227 := n6_
         have NB227_214 := n7_
         have NB215_227 := n8_
         have NB227_215 := n9_
         clear n0_ n1_ n2_ n3_ n4_ n5_ n6_ n7_ n8_ n9_
         clear hb hbox hg
         refine hK.out _ _ ⟨v217, v220, gb227, gb228, m6_, m7_, m8_, (.pointer (some ⟨gb227, 0, none⟩)), m12_, (by rw [ha.out]; exact putSel_upk 8 hb_ rfl rfl rfl), (bK_ BK214), (bK_ BK215), (by repeat (first | (with_reducible first | exact HB.out | apply ba_ | apply bn_ | apply bd_ | refine bset_ ?_ (by assumption)) | exact HB.out)), z_NB228_227, z_NB227_228, z_HO218, z_HO221, fun _ _ => (bK_ BK227), fun _ => GW227.out, fun _ => GE227.out, fun _ => NB214_227.out, fun _ => NB227_214.out, fun _ => NB215_227.out, fun _ => NB227_215.out, z_BK228, Q_GW228, Q_GE228, Q_NB214_228, Q_NB228_214, Q_NB215_228, Q_NB228_215, fun h0_ => absurd ((hoff 13 (by kernel_rfl)).symm.trans h0_) (by decide), fun h0_ => absurd ((hoff 14 (by kernel_rfl)).symm.trans h0_) (by decide), Q_X6_, Q_X7_, Q_X8_, fun _ => rfl, Q_X12_⟩
        refine steps_cons ?_ ?_
        ·rintro b a w' ⟨v217, v220, gb227, gb228, m6_, m7_, m8_, m11_, m12_, ha, Q_BK214, Q_BK215, Q_HB, Q_NB228_227, Q_NB227_228, Q_HO218, Q_HO221, Q_BK227, Q_GW227, Q_GE227, Q_NB214_227, Q_NB227_214, Q_NB215_227, Q_NB227_215, Q_BK228, Q_GW228, Q_GE228, Q_NB214_228, Q_NB228_214, Q_NB215_228, Q_NB228_215, Q_BK227_e13, Q_BK228_e14, Q_X6_, Q_X7_, Q_X8_, Q_X11_, Q_X12_⟩ hb_ hon hoff
         refine ⟨_, rfl, fun K hK => ?_⟩
         replace ha := Aside0.mk ha
         have BK214 := Aside0.mk Q_BK214
         have BK215 := Aside0.mk Q_BK215
         have HB := Aside0.mk Q_HB
         refine box_step ?hg (N := 7) ?hd (cs := #[.int .i64 0, .int .i64 0, .int .i64 0, .int .i64 0]) (t := 32) ?hr ?_; (case hd => rfl); (case hg => rfl); (case hr => exact gs_)
         intro gb228 hg w19 hbox hb
         have n0_ := bB_ BK214 hb
         have n1_ := bB_ BK215 hb
         have n2_ := Aside0.mk (below_step (by repeat (first | (with_reducible first | exact HB.out | apply ba_ | apply bn_ | apply bd_ | refine bset_ ?_ (by assumption)) | exact HB.out)) hb)
         have n3_ := Aside0.mk (hbox)
         have n4_ := gE_ HB hg
         have n5_ := gE_ HB hg
         have n6_ := nB_ BK214 hg
         have n7_ := nA_ BK214 hg
         have n8_ := nB_ BK215 hg
         have n9_ := nA_ BK215 hg
         have z_NB228_227 := fun (h0_ : up b 12 11 = true) (h1_ : up b 12 12 = true) => (show gb228 ≠ gb227 from (by rw [hg]; exact Nat.ne_of_gt (by cases h9_ : b 13 with | false => exact blk_lt (Q_BK227 (by simpa [up] using h0_) h9_) | true => exact blk_lt (Q_BK227_e13 h9_))))
         have z_NB227_228 := fun (h0_ : up b 12 11 = true) (h1_ : up b 12 12 = true) => (show gb227 ≠ gb228 from (by rw [hg]; exact Nat.ne_of_lt (by cases h9_ : b 13 with | false => exact blk_lt (Q_BK227 (by simpa [up] using h0_) h9_) | true => exact blk_lt (Q_BK227_e13 h9_))))
         have z_HO218 := fun (h0_ : b 5 = true) => (show Kd.R (Kd.int .u8) 5 w19 w.heap.size (fun _ => True) v217 y216 from by first | exact (Kd.R_below (by (with_reducible repeat first | apply kr1_ | apply kr2_ | apply kr3_); exact (Q_HO218 h0_)) hb) | exact Kd.R_mono (Kd.R_below (by (with_reducible repeat first | apply kr1_ | apply kr2_ | apply kr3_); exact (Q_HO218 h0_)) hb) (fun _ h_ => by first | trivial | exact h_ | exact h_.1))
         have z_HO221 := fun (h0_ : b 6 = true) => (show Kd.S (Kd.slice 5 (Kd.int .u8)) 29 w19 w.heap.size (fun _ => True) v220 t219 from by first | exact (Kd.S_below (by (with_reducible repeat first | apply ks1_ | apply ks2_ | apply ks3_); exact (Q_HO221 h0_)) hb) | exact Kd.S_mono (Kd.S_below (by (with_reducible repeat first | apply ks1_ | apply ks2_ | apply ks3_); exact (Q_HO221 h0_)) hb) (fun _ h_ => by first | trivial | exact h_ | exact h_.1))
         have z_BK227 := fun (h0_ : b 11 = true) (h1_ : b 13 = false) => (show w19.heap[gb227]? = some (.cells #[.slice none 0 0] 31 (0, 0)) from by first | exact (blk_below (g := gb227) (o := .cells #[.slice none 0 0] 31 (0, 0)) (by (with_reducible repeat first | apply kb1_ | apply kb2_ | apply kb3_); exact (Q_BK227 h0_ h1_)) hb))
         clear BK214
         clear BK215
         clear HB
         have BK214 := n0_
         have BK215 := n1_
         have HB := n2_
         have BK228 := n3_
         have GW228 := n4_
         have GE228 := n5_
         have NB214_228 := n6_
         have NB228_214 := n7_
         have NB215_228 := n8_
         have NB228_215 := n9_
         clear n0_ n1_ n2_ n3_ n4_ n5_ n6_ n7_ n8_ n9_
         clear hb hbox hg
         refine hK.out _ _ ⟨v217, v220, gb227, gb228, m6_, m7_, m8_, m11_, (.pointer (some ⟨gb228, 0, none⟩)), (by rw [ha.out]; exact putSel_upk 9 hb_ rfl rfl rfl), (bK_ BK214), (bK_ BK215), (by repeat (first | (with_reducible first | exact HB.out | apply ba_ | apply bn_ | apply bd_ | refine bset_ ?_ (by assumption)) | exact HB.out)), z_NB228_227, z_NB227_228, z_HO218, z_HO221, z_BK227, Q_GW227, Q_GE227, Q_NB214_227, Q_NB227_214, Q_NB215_227, Q_NB227_215, fun _ _ => (bK_ BK228), fun _ => GW228.out, fun _ => GE228.out, fun _ => NB214_228.out, fun _ => NB228_214.out, fun _ => NB215_228.out, fun _ => NB228_215.out, fun h0_ => absurd ((hoff 13 (by kernel_rfl)).symm.trans h0_) (by decide), fun h0_ => absurd ((hoff 14 (by kernel_rfl)).symm.trans h0_) (by decide), Q_X6_, Q_X7_, Q_X8_, Q_X11_, fun _ => rfl⟩
        refine steps_cons ?_ ?_
        ·rintro b a w' ⟨v217, v220, gb227, gb228, m6_, m7_, m8_, m11_, m12_, ha, Q_BK214, Q_BK215, Q_HB, Q_NB228_227, Q_NB227_228, Q_HO218, Q_HO221, Q_BK227, Q_GW227, Q_GE227, Q_NB214_227, Q_NB227_214, Q_NB215_227, Q_NB227_215, Q_BK228, Q_GW228, Q_GE228, Q_NB214_228, Q_NB228_214, Q_NB215_228, Q_NB228_215, Q_BK227_e13, Q_BK228_e14, Q_X6_, Q_X7_, Q_X8_, Q_X11_, Q_X12_⟩ hb_ hon hoff
         refine ⟨_, rfl, fun K hK => ?_⟩
         have e6 : a.tmps[6]? = some (m11_) := by rw [ha]; exact putSel_on (e := (11, 6, m11_)) 8 rfl rfl (hon 11 (by kernel_rfl)) rfl
         rw [Q_X11_ (hon 11 (by kernel_rfl))] at e6
         have e21 : a.tmps[21]? = some (m8_) := by rw [ha]; exact putSel_on (e := (8, 21, m8_)) 5 rfl rfl (hon 8 (by kernel_rfl)) rfl
         rw [Q_X8_ (hon 8 (by kernel_rfl))] at e21
         replace ha := Aside0.mk ha
         have BK214 := Aside0.mk Q_BK214
         have BK215 := Aside0.mk Q_BK215
         have HB := Aside0.mk Q_HB
         have NB228_227 := Aside0.mk (Q_NB228_227 (hon 11 (by kernel_rfl)) (hon 12 (by kernel_rfl)))
         have NB227_228 := Aside0.mk (Q_NB227_228 (hon 11 (by kernel_rfl)) (hon 12 (by kernel_rfl)))
         have HO218 := Aside0.mk (Q_HO218 (hon 5 (by kernel_rfl)))
         have HO221 := Aside0.mk (Q_HO221 (hon 6 (by kernel_rfl)))
         have BK227 := Aside0.mk (Q_BK227 (hon 11 (by kernel_rfl)) hb_)
         have GW227 := Aside0.mk (Q_GW227 (hon 11 (by kernel_rfl)))
         have GE227 := Aside0.mk (Q_GE227 (hon 11 (by kernel_rfl)))
         have NB214_227 := Aside0.mk (Q_NB214_227 (hon 11 (by kernel_rfl)))
         have NB227_214 := Aside0.mk (Q_NB227_214 (hon 11 (by kernel_rfl)))
         have NB215_227 := Aside0.mk (Q_NB215_227 (hon 11 (by kernel_rfl)))
         have NB227_215 := Aside0.mk (Q_NB227_215 (hon 11 (by kernel_rfl)))
         have BK228 := Aside0.mk (Q_BK228 (hon 12 (by kernel_rfl)) (hoff 14 (by kernel_rfl)))
         have GW228 := Aside0.mk (Q_GW228 (hon 12 (by kernel_rfl)))
         have GE228 := Aside0.mk (Q_GE228 (hon 12 (by kernel_rfl)))
         have NB214_228 := Aside0.mk (Q_NB214_228 (hon 12 (by kernel_rfl)))
         have NB228_214 := Aside0.mk (Q_NB228_214 (hon 12 (by kernel_rfl)))
         have NB215_228 := Aside0.mk (Q_NB215_228 (hon 12 (by kernel_rfl)))
         have NB228_215 := Aside0.mk (Q_NB228_215 (hon 12 (by kernel_rfl)))
         obtain ⟨Ao26, co26, eo26⟩ := Kd.S_slice HO221.out
         (first | subst eo26 | (injection eo26 with f1_ f2_ f3_; have f4_ := f1_.symm; have f5_ := f3_.symm; clear f1_ f2_ f3_; subst f4_; subst f5_))
         have hs27 : w'.cell? ⟨gb227, 0, none⟩ = some (.slice none 0 0) := (blk_cell BK227.out 0).trans rfl
         have hfs27 := blk_frozen BK227.out 0
         have hns27_0 := NB214_227.out
         have hns27_1 := NB215_227.out
         have hns27_3 := NB228_227.out
         have hms27_0 := NB227_214.out
         have hms27_1 := NB227_215.out
         have hms27_3 := NB227_228.out
         refine skip_ (w1 := ?_) (by rfl) rfl ?_ ?_
         rotate_left
         ·go_simp
          rfl
         refine hK.out _ _ ⟨v217, .slice Ao26 t219.length co26, gb227, gb228, m6_, m7_, m8_, m11_, m12_, (by rw [ha.out]; exact putSel_none (v := undef) rfl), (by exact fB_ BK214), (by exact fB_ BK215), (by repeat (first | (with_reducible first | exact HB.out | apply ba_ | apply bn_ | apply bd_ | refine bset_ ?_ (by assumption)) | exact HB.out)), fun _ _ => NB228_227.out, fun _ _ => NB227_228.out, fun _ => (by (with_reducible repeat first | apply kr1_ | apply kr2_ | apply kr3_); exact Kd.R_mono (rf1_ gb227 (Kd.R_types HO218.out BK227.out (by decide)) (fun _ hk => hk.2)) (fun _ hk => trivial)), fun _ => (by (with_reducible repeat first | apply ks1_ | apply ks2_ | apply ks3_); exact Kd.S_mono (sf1_ gb227 (Kd.S_types HO221.out BK227.out (by decide)) (fun _ hk => hk.2)) (fun _ hk => hk.1)), fun _ h1_ => absurd ((up_self b 13).symm.trans h1_) (by decide), fun _ => GW227.out, fun _ => GE227.out, fun _ => NB214_227.out, fun _ => NB227_214.out, fun _ => NB215_227.out, fun _ => NB227_215.out, fun _ _ => (by exact fB_ BK228), fun _ => GW228.out, fun _ => GE228.out, fun _ => NB214_228.out, fun _ => NB228_214.out, fun _ => NB215_228.out, fun _ => NB228_215.out, fun _ => (by exact fB_ BK227), fun h0_ => absurd ((hoff 14 (by kernel_rfl)).symm.trans h0_) (by decide), Q_X6_, Q_X7_, Q_X8_, Q_X11_, Q_X12_⟩
        refine steps_cons ?_ ?_
        ·rintro b a w' ⟨v217, v220, gb227, gb228, m6_, m7_, m8_, m11_, m12_, ha, Q_BK214, Q_BK215, Q_HB, Q_NB228_227, Q_NB227_228, Q_HO218, Q_HO221, Q_BK227, Q_GW227, Q_GE227, Q_NB214_227, Q_NB227_214, Q_NB215_227, Q_NB227_215, Q_BK228, Q_GW228, Q_GE228, Q_NB214_228, Q_NB228_214, Q_NB215_228, Q_NB228_215, Q_BK227_e13, Q_BK228_e14, Q_X6_, Q_X7_, Q_X8_, Q_X11_, Q_X12_⟩ hb_ hon hoff
         refine ⟨_, rfl, fun K hK => ?_⟩
         have e7 : a.tmps[7]? = some (m12_) := by rw [ha]; exact putSel_on (e := (12, 7, m12_)) 9 rfl rfl (hon 12 (by kernel_rfl)) rfl
         rw [Q_X12_ (hon 12 (by kernel_rfl))] at e7
         have e22 : a.tmps[22]? = some (.agg #[.int .i64 t222, .int .i64 t223, .int .i64 t224, .int .i64 t225]) := by rw [ha]; exact putSel_on (e := (9, 22, .agg #[.int .i64 t222, .int .i64 t223, .int .i64 t224, .int .i64 t225])) 6 rfl rfl (hon 9 (by kernel_rfl)) rfl
         replace ha := Aside0.mk ha
         have BK214 := Aside0.mk Q_BK214
         have BK215 := Aside0.mk Q_BK215
         have HB := Aside0.mk Q_HB
         have NB228_227 := Aside0.mk (Q_NB228_227 (hon 11 (by kernel_rfl)) (hon 12 (by kernel_rfl)))
         have NB227_228 := Aside0.mk (Q_NB227_228 (hon 11 (by kernel_rfl)) (hon 12 (by kernel_rfl)))
         have HO218 := Aside0.mk (Q_HO218 (hon 5 (by kernel_rfl)))
         have HO221 := Aside0.mk (Q_HO221 (hon 6 (by kernel_rfl)))
         have GW227 := Aside0.mk (Q_GW227 (hon 11 (by kernel_rfl)))
         have GE227 := Aside0.mk (Q_GE227 (hon 11 (by kernel_rfl)))
         have NB214_227 := Aside0.mk (Q_NB214_227 (hon 11 (by kernel_rfl)))
         have NB227_214 := Aside0.mk (Q_NB227_214 (hon 11 (by kernel_rfl)))
         have NB215_227 := Aside0.mk (Q_NB215_227 (hon 11 (by kernel_rfl)))
         have NB227_215 := Aside0.mk (Q_NB227_215 (hon 11 (by kernel_rfl)))
         have BK228 := Aside0.mk (Q_BK228 (hon 12 (by kernel_rfl)) hb_)
         have GW228 := Aside0.mk (Q_GW228 (hon 12 (by kernel_rfl)))
         have GE228 := Aside0.mk (Q_GE228 (hon 12 (by kernel_rfl)))
         have NB214_228 := Aside0.mk (Q_NB214_228 (hon 12 (by kernel_rfl)))
         have NB228_214 := Aside0.mk (Q_NB228_214 (hon 12 (by kernel_rfl)))
         have NB215_228 := Aside0.mk (Q_NB215_228 (hon 12 (by kernel_rfl)))
         have NB228_215 := Aside0.mk (Q_NB228_215 (hon 12 (by kernel_rfl)))
         have BK227 := Aside0.mk (Q_BK227_e13 (hon 13 (by kernel_rfl)))
         have hs28 : w'.cell? ⟨gb228, 0, none⟩ = some (.int .i64 0) := (blk_cell BK228.out 0).trans rfl
         have hfs28 := blk_frozen BK228.out 0
         have hns28_0 := NB214_228.out
         have hns28_1 := NB215_228.out
         have hns28_2 := NB227_228.out
         have hms28_0 := NB228_214.out
         have hms28_1 := NB228_215.out
         have hms28_2 := NB228_227.out
         have hs29 : w'.cell? ⟨gb228, 1, none⟩ = some (.int .i64 0) := (blk_cell BK228.out 1).trans rfl
         have hfs29 := blk_frozen BK228.out 1
         have hs30 : w'.cell? ⟨gb228, 2, none⟩ = some (.int .i64 0) := (blk_cell BK228.out 2).trans rfl
         have hfs30 := blk_frozen BK228.out 2
         have hs31 : w'.cell? ⟨gb228, 3, none⟩ = some (.int .i64 0) := (blk_cell BK228.out 3).trans rfl
         have hfs31 := blk_frozen BK228.out 3
         refine skip_ (w1 := ?_) (by rfl) rfl ?_ ?_
         rotate_left
         ·go_simp
          rfl
         refine hK.out _ _ ⟨v217, v220, gb227, gb228, m6_, m7_, m8_, m11_, m12_, (by rw [ha.out]; exact putSel_none (v := undef) rfl), (by exact fB_ BK214), (by exact fB_ BK215), (by repeat (first | (with_reducible first | exact HB.out | apply ba_ | apply bn_ | apply bd_ | refine bset_ ?_ (by assumption)) | exact HB.out)), fun _ _ => NB228_227.out, fun _ _ => NB227_228.out, fun _ => (by (with_reducible repeat first | apply kr1_ | apply kr2_ | apply kr3_); exact Kd.R_mono (rf4_ gb228 (Kd.R_types HO218.out BK228.out (by decide)) (fun _ hk => hk.2)) (fun _ hk => trivial)), fun _ => (by (with_reducible repeat first | apply ks1_ | apply ks2_ | apply ks3_); exact Kd.S_mono (sf4_ gb228 (Kd.S_types HO221.out BK228.out (by decide)) (fun _ hk => hk.2)) (fun _ hk => hk.1)), fun _ h1_ => absurd ((hon 13 (by kernel_rfl)).symm.trans h1_) (by decide), fun _ => GW227.out, fun _ => GE227.out, fun _ => NB214_227.out, fun _ => NB227_214.out, fun _ => NB215_227.out, fun _ => NB227_215.out, fun _ h1_ => absurd ((up_self b 14).symm.trans h1_) (by decide), fun _ => GW228.out, fun _ => GE228.out, fun _ => NB214_228.out, fun _ => NB228_214.out, fun _ => NB215_228.out, fun _ => NB228_215.out, fun _ => (by exact fB_ BK227), fun _ => (by exact fB_ BK228), Q_X6_, Q_X7_, Q_X8_, Q_X11_, Q_X12_⟩
        refine steps_cons ?_ ?_
        ·rintro b a w' ⟨v217, v220, gb227, gb228, m6_, m7_, m8_, m11_, m12_, ha, Q_BK214, Q_BK215, Q_HB, Q_NB228_227, Q_NB227_228, Q_HO218, Q_HO221, Q_BK227, Q_GW227, Q_GE227, Q_NB214_227, Q_NB227_214, Q_NB215_227, Q_NB227_215, Q_BK228, Q_GW228, Q_GE228, Q_NB214_228, Q_NB228_214, Q_NB215_228, Q_NB228_215, Q_BK227_e13, Q_BK228_e14, Q_X6_, Q_X7_, Q_X8_, Q_X11_, Q_X12_⟩ hb_ hon hoff
         refine ⟨_, rfl, fun K hK => ?_⟩
         have e23 : a.tmps[23]? = some (.bool true) := by rw [ha]; exact putSel_on (e := (10, 23, .bool true)) 7 rfl rfl (hon 10 (by kernel_rfl)) rfl
         replace ha := Aside0.mk ha
         have BK214 := Aside0.mk Q_BK214
         have BK215 := Aside0.mk Q_BK215
         have HB := Aside0.mk Q_HB
         have NB228_227 := Aside0.mk (Q_NB228_227 (hon 11 (by kernel_rfl)) (hon 12 (by kernel_rfl)))
         have NB227_228 := Aside0.mk (Q_NB227_228 (hon 11 (by kernel_rfl)) (hon 12 (by kernel_rfl)))
         have HO218 := Aside0.mk (Q_HO218 (hon 5 (by kernel_rfl)))
         have HO221 := Aside0.mk (Q_HO221 (hon 6 (by kernel_rfl)))
         have GW227 := Aside0.mk (Q_GW227 (hon 11 (by kernel_rfl)))
         have GE227 := Aside0.mk (Q_GE227 (hon 11 (by kernel_rfl)))
         have NB214_227 := Aside0.mk (Q_NB214_227 (hon 11 (by kernel_rfl)))
         have NB227_214 := Aside0.mk (Q_NB227_214 (hon 11 (by kernel_rfl)))
         have NB215_227 := Aside0.mk (Q_NB215_227 (hon 11 (by kernel_rfl)))
         have NB227_215 := Aside0.mk (Q_NB227_215 (hon 11 (by kernel_rfl)))
         have GW228 := Aside0.mk (Q_GW228 (hon 12 (by kernel_rfl)))
         have GE228 := Aside0.mk (Q_GE228 (hon 12 (by kernel_rfl)))
         have NB214_228 := Aside0.mk (Q_NB214_228 (hon 12 (by kernel_rfl)))
         have NB228_214 := Aside0.mk (Q_NB228_214 (hon 12 (by kernel_rfl)))
         have NB215_228 := Aside0.mk (Q_NB215_228 (hon 12 (by kernel_rfl)))
         have NB228_215 := Aside0.mk (Q_NB228_215 (hon 12 (by kernel_rfl)))
         have BK227 := Aside0.mk (Q_BK227_e13 (hon 13 (by kernel_rfl)))
         have BK228 := Aside0.mk (Q_BK228_e14 (hon 14 (by kernel_rfl)))
         refine value_ (w1 := w') (v := .bool true) (by rfl) rfl ?_ ?_
         ·go_simp
          (try simp only [i64_w])
          try rfl
         refine hK.out _ _ ⟨v217, v220, gb227, gb228, m6_, m7_, m8_, m11_, m12_, (by rw [ha.out]; exact putSel_upk 10 hb_ rfl rfl rfl), Q_BK214, Q_BK215, Q_HB, Q_NB228_227, Q_NB227_228, Q_HO218, Q_HO221, fun _ h1_ => absurd ((hon 13 (by kernel_rfl)).symm.trans h1_) (by decide), Q_GW227, Q_GE227, Q_NB214_227, Q_NB227_214, Q_NB215_227, Q_NB227_215, fun _ h1_ => absurd ((hon 14 (by kernel_rfl)).symm.trans h1_) (by decide), Q_GW228, Q_GE228, Q_NB214_228, Q_NB228_214, Q_NB215_228, Q_NB228_215, Q_BK227_e13, Q_BK228_e14, Q_X6_, Q_X7_, Q_X8_, Q_X11_, Q_X12_⟩
        exact steps_nil
       rintro b a w31 hall ⟨v217, v220, gb227, gb228, m6_, m7_, m8_, m11_, m12_, ha, Q_BK214, Q_BK215, Q_HB, Q_NB228_227, Q_NB227_228, Q_HO218, Q_HO221, Q_BK227, Q_GW227, Q_GE227, Q_NB214_227, Q_NB227_214, Q_NB215_227, Q_NB227_215, Q_BK228, Q_GW228, Q_GE228, Q_NB214_228, Q_NB228_214, Q_NB215_228, Q_NB228_215, Q_BK227_e13, Q_BK228_e14, Q_X6_, Q_X7_, Q_X8_, Q_X11_, Q_X12_⟩
       clear BK214 BK215 HB
       have hb1_ := hall 1 (by kernel_rfl)
       have hb3_ := hall 3 (by kernel_rfl)
       have hb5_ := hall 5 (by kernel_rfl)
       have hb6_ := hall 6 (by kernel_rfl)
       have hb7_ := hall 7 (by kernel_rfl)
       have hb8_ := hall 8 (by kernel_rfl)
       have hb9_ := hall 9 (by kernel_rfl)
       have hb10_ := hall 10 (by kernel_rfl)
       have hb11_ := hall 11 (by kernel_rfl)
       have hb12_ := hall 12 (by kernel_rfl)
       have hb13_ := hall 13 (by kernel_rfl)
       have hb14_ := hall 14 (by kernel_rfl)
       have hb15_ := hall 15 (by kernel_rfl)
       subst ha
       obtain rfl := Q_X6_ hb6_
       obtain rfl := Q_X7_ hb7_
       obtain rfl := Q_X8_ hb8_
       obtain rfl := Q_X11_ hb11_
       obtain rfl := Q_X12_ hb12_
       simp only [putSel, hb1_, hb3_, hb5_, hb6_, hb7_, hb8_, hb9_, hb10_, hb11_, hb12_, hb13_, hb14_, hb15_, if_true, Act.put, List.setIfInBounds_toArray, List.set_cons_zero, List.set_cons_succ]
       have BK214 := Aside0.mk Q_BK214
       clear Q_BK214
       have BK215 := Aside0.mk Q_BK215
       clear Q_BK215
       have HB := Aside0.mk Q_HB
       clear Q_HB
       have NB228_227 := Aside0.mk (Q_NB228_227 hb11_ hb12_)
       clear Q_NB228_227
       have NB227_228 := Aside0.mk (Q_NB227_228 hb11_ hb12_)
       clear Q_NB227_228
       have HO218 := Aside0.mk (Q_HO218 hb5_)
       clear Q_HO218
       have HO221 := Aside0.mk (Q_HO221 hb6_)
       clear Q_HO221
       clear Q_BK227
       have GW227 := Aside0.mk (Q_GW227 hb11_)
       clear Q_GW227
       have GE227 := Aside0.mk (Q_GE227 hb11_)
       clear Q_GE227
       have NB214_227 := Aside0.mk (Q_NB214_227 hb11_)
       clear Q_NB214_227
       have NB227_214 := Aside0.mk (Q_NB227_214 hb11_)
       clear Q_NB227_214
       have NB215_227 := Aside0.mk (Q_NB215_227 hb11_)
       clear Q_NB215_227
       have NB227_215 := Aside0.mk (Q_NB227_215 hb11_)
       clear Q_NB227_215
       clear Q_BK228
       have GW228 := Aside0.mk (Q_GW228 hb12_)
       clear Q_GW228
       have GE228 := Aside0.mk (Q_GE228 hb12_)
       clear Q_GE228
       have NB214_228 := Aside0.mk (Q_NB214_228 hb12_)
       clear Q_NB214_228
       have NB228_214 := Aside0.mk (Q_NB228_214 hb12_)
       clear Q_NB228_214
       have NB215_228 := Aside0.mk (Q_NB215_228 hb12_)
       clear Q_NB215_228
       have NB228_215 := Aside0.mk (Q_NB228_215 hb12_)
       clear Q_NB228_215
       have BK227 := Aside0.mk (Q_BK227_e13 hb13_)
       clear Q_BK227_e13
       have BK228 := Aside0.mk (Q_BK228_e14 hb14_)
       clear Q_BK228_e14
       clear hall hb1_ hb3_ hb5_ hb6_ hb7_ hb8_ hb9_ hb10_ hb11_ hb12_ hb13_ hb14_ hb15_
       try go_wp2
       replace HO218 := Aside0.mk (Kd.R_drew HO218.out)
       replace HO221 := Aside0.mk (Kd.S_drew HO221.out)
       replace BK214 := Aside0.mk (blk_drew BK214.out)
       replace BK215 := Aside0.mk (blk_drew BK215.out)
       replace BK227 := Aside0.mk (blk_drew BK227.out)
       replace BK228 := Aside0.mk (blk_drew BK228.out)
       replace HB := Aside0.mk (below_drew1 HB.out)
       refine start_ (n := 9) (S := fun w' => w'.cell? ⟨gb214, 0, none⟩ = some (.slice A0_0 l0_0.length c0_0) ∧ w'.cell? ⟨gb214, 1, none⟩ = some (.int .i64 a0_1) ∧ w'.cell? ⟨gb214, 2, none⟩ = some (.int .i64 a0_2) ∧ w'.cell? ⟨gb214, 3, none⟩ = some (.int .i64 a0_3) ∧ w'.cell? ⟨gb214, 4, none⟩ = some (.int .i64 a0_4) ∧ w'.cell? ⟨gb214, 5, none⟩ = some (.int .i64 a0_5) ∧ w'.cell? ⟨gb214, 6, none⟩ = some (.int .i64 a0_6)) (ds := []) #[false, false, false, false, false, false, false, false, false] (by kernel_rfl) rfl rfl ⟨(blk_cell BK214.out 0).trans rfl, (blk_cell BK214.out 1).trans rfl, (blk_cell BK214.out 2).trans rfl, (blk_cell BK214.out 3).trans rfl, (blk_cell BK214.out 4).trans rfl, (blk_cell BK214.out 5).trans rfl, (blk_cell BK214.out 6).trans rfl⟩ (fun hHeld => ?_); refine with_tabW spec_l6Widen.tab6 spec_l6Widen.bits6 (fun HT_ HW_ => ?_)
       generalize w31.drew = w32 at HO218 HO221 BK214 BK215 BK227 BK228 HB hHeld ⊢
       refine pure_ (i := 0) (N := some 27) (v := ?_) (a' := ?_) #[true, false, false, false, false, false, false, false, false] rfl rfl (any_of HT_.out (by kernel_rfl)) (fun _ _ _ h => h) (Or.inl ⟨by rfl, ?_⟩) ?_ ?_
       rotate_left
       ·intro w'
        go_simp
        with_reducible rfl
       rotate_left
       ·simp only [Act.put, List.setIfInBounds_toArray, List.set_cons_zero, List.set_cons_succ, i64_w, i32_w]
        rfl
       refine pure_ (i := 2) (N := some 29) (v := ?_) (a' := ?_) #[true, false, true, false, false, false, false, false, false] rfl rfl (any_of HT_.out (by kernel_rfl)) (fun _ _ _ h => h) (Or.inl ⟨by rfl, ?_⟩) ?_ ?_
       rotate_left
       ·intro w'
        go_simp
        with_reducible rfl
       rotate_left
       ·simp only [Act.put, List.setIfInBounds_toArray, List.set_cons_zero, List.set_cons_succ, i64_w, i32_w]
        rfl
       refine pure_ (i := 5) (N := some 32) (v := ?_) (a' := ?_) #[true, false, true, false, false, true, false, false, false] rfl rfl (any_of HT_.out (by kernel_rfl)) (fun _ _ _ h => h) (Or.inl ⟨by rfl, ?_⟩) ?_ ?_
       rotate_left
       ·intro w'
        go_simp
        with_reducible rfl
       rotate_left
       ·simp only [Act.put, List.setIfInBounds_toArray, List.set_cons_zero, List.set_cons_succ, i64_w, i32_w]
        rfl
       refine take_ (i := 1) (N := some 28) (v := ?_) (a' := ?_) #[true, true, true, false, false, true, false, false, false] rfl rfl (take_ofW HT_.out HW_.out (by kernel_rfl)) (fun _ _ _ h => h) (Or.inl ⟨by rfl, ?_⟩) hHeld ?_ ?_
       rotate_left
       ·rintro w' ⟨s0, s1, s2, s3, s4, s5, s6⟩
        go_simp
        with_reducible rfl
       rotate_left
       ·simp only [Act.put, List.setIfInBounds_toArray, List.set_cons_zero, List.set_cons_succ, i64_w, i32_w]
        rfl
       refine take_ (i := 3) (N := some 30) (v := ?_) (a' := ?_) #[true, true, true, true, false, true, false, false, false] rfl rfl (take_ofW HT_.out HW_.out (by kernel_rfl)) (fun _ _ _ h => h) (Or.inl ⟨by rfl, ?_⟩) hHeld ?_ ?_
       rotate_left
       ·rintro w' ⟨s0, s1, s2, s3, s4, s5, s6⟩
        go_simp
        with_reducible rfl
       rotate_left
       ·simp only [Act.put, List.setIfInBounds_toArray, List.set_cons_zero, List.set_cons_succ, i64_w, i32_w]
        rfl
       refine take_ (i := 6) (N := some 33) (v := ?_) (a' := ?_) #[true, true, true, true, false, true, true, false, false] rfl rfl (take_ofW HT_.out HW_.out (by kernel_rfl)) (fun _ _ _ h => h) (Or.inl ⟨by rfl, ?_⟩) hHeld ?_ ?_
       rotate_left
       ·rintro w' ⟨s0, s1, s2, s3, s4, s5, s6⟩
        go_simp
        with_reducible rfl
       rotate_left
       ·simp only [Act.put, List.setIfInBounds_toArray, List.set_cons_zero, List.set_cons_succ, i64_w, i32_w]
        rfl
       refine one_ (i := 4) (N := some 31) #[true, true, true, true, true, true, true, false, false] rfl rfl (one_of HT_.out (by kernel_rfl)) (by decide) (fun K hK => ?_)
       refine goes_ Try.func185 (by kernel_rfl) rfl #[.agg #[.slice A0_0 l0_0.length c0_0], .agg #[.int .i64 a0_1, .int .i64 a0_2, .int .i64 a0_3, .int .i64 a0_4]] (by rfl) rfl rfl ar_ ?_
       with_reducible refine (spec_l2Bytes.calls k _ _ l0_0 a0_1 a0_2 a0_3 a0_4 t229 _ ?side1 ?side2 A12.out).mono ?_
       (case side1 => exact cS_ (Kd.C_below HR0_0.out HB.out))
       (case side2 => exact HC0_0.out)
       rintro e w33 ⟨v230, rfl, ho0, hb⟩
       refine ⟨_, rfl, ?_⟩
       replace HO221 := Aside0.mk (Kd.S_elder' (sK_ HO221) (Kd.R_base ho0) hb)
       have HO231 := Aside0.mk (rL_ (Kd.R_new' ho0 (Kd.R_lt (rK_ HO218))) HB)
       replace HO218 := Aside0.mk (Kd.R_elder' (rK_ HO218) (Kd.R_base ho0) hb)
       replace BK214 := bB_ BK214 hb
       replace BK215 := bB_ BK215 hb
       replace BK227 := bB_ BK227 hb
       replace BK228 := bB_ BK228 hb
       replace HB := Aside0.mk (below_step (by repeat (first | (with_reducible first | exact HB.out | apply ba_ | apply bn_ | apply bd_ | refine bset_ ?_ (by assumption)) | exact HB.out)) hb)
       (try clear hb)
       (try clear hb2)
       (try clear hk)
       (try clear hi)
       (try clear ho0)
       obtain ⟨Ao35, co35, eo35⟩ := Kd.R_slice HO231.out
       (first | subst eo35 | (injection eo35 with f1_ f2_ f3_; have f4_ := f1_.symm; have f5_ := f3_.symm; clear f1_ f2_ f3_; subst f4_; subst f5_))
       have q34 : (a0_6 : Int) ≤ ((t229.length : Int) : Int) := of_decide_eq_true as_
       obtain ⟨i034, hi034, _, hsz34, _⟩ := info_parts info5
       have hroom34 : t229.length ≤ co35 := (Kd.R_reads' HO231.out).2.1
       have hC34 : Kd.C (Kd.int .u8) _ Ao35 t229.length t229 := (Kd.R_reads' HO231.out).2.2
       have q034 : (0 : Int) ≤ (a0_6 : Int) := of_decide_eq_true as_
       have hcut34 := cut_from (P := Try.prog) 29 5 .i64 Try.underlying29 hi034 1 hsz34 Ao35 t229.length co35 a0_6 q034 q34
       have hr34 := Kd.C_drop (m := (a0_6 : Int).toNat) (c := co35) hC34 (by omega) hroom34
       obtain ⟨A34, hA34⟩ : ∃ A1, A1 = (if co35 = (a0_6 : Int).toNat then Ao35 else (Ao35 : Option Addr).map (·.add ((a0_6 : Int).toNat * 1))) := ⟨_, rfl⟩
       obtain ⟨c34, hc34⟩ : ∃ c1, c1 = co35 - (a0_6 : Int).toNat := ⟨_, rfl⟩
       have hy34 : y232.length = t229.length - (a0_6 : Int).toNat := (by rw [Ny232.out, List.length_drop] <;> omega)
       rw [show (t229).drop (a0_6 : Int).toNat = y232 from Ny232.out.symm] at hr34
       replace hr34 : Kd.C (Kd.int .u8) _ A34 y232.length y232 := (by rw [hA34]; exact hr34)
       rw [← hy34, ← hA34, ← hc34] at hcut34
       have HR235 := Aside0.mk hr34
       have HC235 := Aside0.mk (show y232.length ≤ c34 from by rw [hy34, hc34]; exact Nat.sub_le_sub_right hroom34 _)
       clear hr34 hC34 hroom34 hi034 hsz34 hc34
       have KY34 := Aside0.mk hy34
       have KA34 := Aside0.mk hA34
       clear hy34 hA34
       have KL34 := Aside0.mk (show (a0_6 : Int).toNat ≤ t229.length from by omega)
       replace q34 := eq_true q34
       refine hK.out _ _ ⟨(blk_cell BK214.out 0).trans rfl, (blk_cell BK214.out 1).trans rfl, (blk_cell BK214.out 2).trans rfl, (blk_cell BK214.out 3).trans rfl, (blk_cell BK214.out 4).trans rfl, (blk_cell BK214.out 5).trans rfl, (blk_cell BK214.out 6).trans rfl⟩ (fun hHeld => ?_)
       clear hK K
       refine norm_ (a' := ?_) ?_ ?_
       rotate_left
       ·show Act.put _ (some 31) _ = _
        simp only [Act.put, List.setIfInBounds_toArray, List.set_cons_zero, List.set_cons_succ, i64_w, i32_w]
        rfl
       refine pure_ (i := 7) (N := some 34) (v := ?_) (a' := ?_) #[true, true, true, true, true, true, true, true, false] rfl rfl (any_of HT_.out (by kernel_rfl)) (fun _ _ _ h => h) (Or.inl ⟨by rfl, ?_⟩) ?_ ?_
       rotate_left
       ·intro w'
        go_simp
        with_reducible rfl
       rotate_left
       ·simp only [Act.put, List.setIfInBounds_toArray, List.set_cons_zero, List.set_cons_succ, i64_w, i32_w]
        rfl
       refine pure_ (i := 8) (N := some 9) (v := ?_) (a' := ?_) #[true, true, true, true, true, true, true, true, true] rfl rfl (any_of HT_.out (by kernel_rfl)) (fun _ _ _ h => h) (Or.inl ⟨by rfl, ?_⟩) ?_ ?_
       rotate_left
       ·intro w'
        go_simp
        with_reducible rfl
       rotate_left
       ·simp only [Act.put, List.setIfInBounds_toArray, List.set_cons_zero, List.set_cons_succ, i64_w, i32_w]
        rfl
       refine done_ (done_of HT_.out (by kernel_rfl)) ?_
       try go_wp2
       replace HO218 := Aside0.mk (Kd.R_drew HO218.out)
       replace HO221 := Aside0.mk (Kd.S_drew HO221.out)
       replace HO231 := Aside0.mk (Kd.R_drew HO231.out)
       replace BK214 := Aside0.mk (blk_drew BK214.out)
       replace BK215 := Aside0.mk (blk_drew BK215.out)
       replace BK227 := Aside0.mk (blk_drew BK227.out)
       replace BK228 := Aside0.mk (blk_drew BK228.out)
       replace HR235 := Aside0.mk (Kd.C_drew HR235.out)
       replace HB := Aside0.mk (below_drew1 HB.out)
       obtain ⟨Ao37, co37, eo37⟩ := Kd.S_slice HO221.out
       (first | subst eo37 | (injection eo37 with f1_ f2_ f3_; have f4_ := f1_.symm; have f5_ := f3_.symm; clear f1_ f2_ f3_; subst f4_; subst f5_))
       refine start_ (n := 18) (S := fun w' => w'.cell? ⟨gb227, 0, none⟩ = some (.slice Ao37 t219.length co37) ∧ w'.cell? ⟨gb228, 0, none⟩ = some (.int .i64 t222) ∧ w'.cell? ⟨gb228, 1, none⟩ = some (.int .i64 t223) ∧ w'.cell? ⟨gb228, 2, none⟩ = some (.int .i64 t224) ∧ w'.cell? ⟨gb228, 3, none⟩ = some (.int .i64 t225) ∧ w'.cell? ⟨gb214, 0, none⟩ = some (.slice A0_0 l0_0.length c0_0) ∧ w'.cell? ⟨gb214, 1, none⟩ = some (.int .i64 a0_1) ∧ w'.cell? ⟨gb214, 2, none⟩ = some (.int .i64 a0_2) ∧ w'.cell? ⟨gb214, 3, none⟩ = some (.int .i64 a0_3) ∧ w'.cell? ⟨gb214, 4, none⟩ = some (.int .i64 a0_4) ∧ w'.cell? ⟨gb214, 5, none⟩ = some (.int .i64 a0_5) ∧ w'.cell? ⟨gb214, 6, none⟩ = some (.int .i64 a0_6)) (ds := []) #[false, false, false, false, false, false, false, false, false, false, false, false, false, false, false, false, false, false] (by kernel_rfl) rfl rfl ⟨(blk_cell BK227.out 0).trans rfl, (blk_cell BK228.out 0).trans rfl, (blk_cell BK228.out 1).trans rfl, (blk_cell BK228.out 2).trans rfl, (blk_cell BK228.out 3).trans rfl, (blk_cell BK214.out 0).trans rfl, (blk_cell BK214.out 1).trans rfl, (blk_cell BK214.out 2).trans rfl, (blk_cell BK214.out 3).trans rfl, (blk_cell BK214.out 4).trans rfl, (blk_cell BK214.out 5).trans rfl, (blk_cell BK214.out 6).trans rfl⟩ (fun hHeld => ?_); refine with_tabW spec_l6Widen.tab7 spec_l6Widen.bits7 (fun HT_ HW_ => ?_)
       generalize w33.drew = w36 at HO218 HO221 HO231 BK214 BK215 BK227 BK228 HR235 HB hHeld ⊢
       refine pure_ (i := 2) (N := some 37) (v := ?_) (a' := ?_) #[false, false, true, false, false, false, false, false, false, false, false, false, false, false, false, false, false, false] rfl rfl (any_of HT_.out (by kernel_rfl)) (fun _ _ _ h => h) (Or.inl ⟨by rfl, ?_⟩) ?_ ?_
       rotate_left
       ·intro w'
        go_simp
        with_reducible rfl
       rotate_left
       ·simp only [Act.put, List.setIfInBounds_toArray, List.set_cons_zero, List.set_cons_succ, i64_w, i32_w]
        rfl
       refine pure_ (i := 4) (N := some 39) (v := ?_) (a' := ?_) #[false, false, true, false, true, false, false, false, false, false, false, false, false, false, false, false, false, false] rfl rfl (any_of HT_.out (by kernel_rfl)) (fun _ _ _ h => h) (Or.inl ⟨by rfl, ?_⟩) ?_ ?_
       rotate_left
       ·intro w'
        go_simp
        with_reducible rfl
       rotate_left
       ·simp only [Act.put, List.setIfInBounds_toArray, List.set_cons_zero, List.set_cons_succ, i64_w, i32_w]
        rfl
       refine pure_ (i := 6) (N := some 41) (v := ?_) (a' := ?_) #[false, false, true, false, true, false, true, false, false, false, false, false, false, false, false, false, false, false] rfl rfl (any_of HT_.out (by kernel_rfl)) (fun _ _ _ h => h) (Or.inl ⟨by rfl, ?_⟩) ?_ ?_
       rotate_left
       ·intro w'
        go_simp
        with_reducible rfl
       rotate_left
       ·simp only [Act.put, List.setIfInBounds_toArray, List.set_cons_zero, List.set_cons_succ, i64_w, i32_w]
        rfl
       refine pure_ (i := 9) (N := some 44) (v := ?_) (a' := ?_) #[false, false, true, false, true, false, true, false, false, true, false, false, false, false, false, false, false, false] rfl rfl (any_of HT_.out (by kernel_rfl)) (fun _ _ _ h => h) (Or.inl ⟨by rfl, ?_⟩) ?_ ?_
       rotate_left
       ·intro w'
        go_simp
        with_reducible rfl
       rotate_left
       ·simp only [Act.put, List.setIfInBounds_toArray, List.set_cons_zero, List.set_cons_succ, i64_w, i32_w]
        rfl
       refine pure_ (i := 11) (N := some 46) (v := ?_) (a' := ?_) #[false, false, true, false, true, false, true, false, false, true, false, true, false, false, false, false, false, false] rfl rfl (any_of HT_.out (by kernel_rfl)) (fun _ _ _ h => h) (Or.inl ⟨by rfl, ?_⟩) ?_ ?_
       rotate_left
       ·intro w'
        go_simp
        with_reducible rfl
       rotate_left
       ·simp only [Act.put, List.setIfInBounds_toArray, List.set_cons_zero, List.set_cons_succ, i64_w, i32_w]
        rfl
       refine pure_ (i := 13) (N := some 48) (v := ?_) (a' := ?_) #[false, false, true, false, true, false, true, false, false, true, false, true, false, true, false, false, false, false] rfl rfl (any_of HT_.out (by kernel_rfl)) (fun _ _ _ h => h) (Or.inl ⟨by rfl, ?_⟩) ?_ ?_
       rotate_left
       ·intro w'
        go_simp
        with_reducible rfl
       rotate_left
       ·simp only [Act.put, List.setIfInBounds_toArray, List.set_cons_zero, List.set_cons_succ, i64_w, i32_w]
        rfl
       refine take_ (i := 0) (N := some 35) (v := ?_) (a' := ?_) #[true, false, true, false, true, false, true, false, false, true, false, true, false, true, false, false, false, false] rfl rfl (take_ofW HT_.out HW_.out (by kernel_rfl)) (fun _ _ _ h => h) (Or.inl ⟨by rfl, ?_⟩) hHeld ?_ ?_
       rotate_left
       ·rintro w' ⟨s0, s1, s2, s3, s4, s5, s6, s7, s8, s9, s10, s11⟩
        go_simp
        with_reducible rfl
       rotate_left
       ·simp only [Act.put, List.setIfInBounds_toArray, List.set_cons_zero, List.set_cons_succ, i64_w, i32_w]
        rfl
       refine take_ (i := 1) (N := some 36) (v := ?_) (a' := ?_) #[true, true, true, false, true, false, true, false, false, true, false, true, false, true, false, false, false, false] rfl rfl (take_ofW HT_.out HW_.out (by kernel_rfl)) (fun _ _ _ h => h) (Or.inl ⟨by rfl, ?_⟩) hHeld ?_ ?_
       rotate_left
       ·rintro w' ⟨s0, s1, s2, s3, s4, s5, s6, s7, s8, s9, s10, s11⟩
        go_simp
        with_reducible rfl
       rotate_left
       ·simp only [Act.put, List.setIfInBounds_toArray, List.set_cons_zero, List.set_cons_succ, i64_w, i32_w]
        rfl
       refine take_ (i := 3) (N := some 38) (v := ?_) (a' := ?_) #[true, true, true, true, true, false, true, false, false, true, false, true, false, true, false, false, false, false] rfl rfl (take_ofW HT_.out HW_.out (by kernel_rfl)) (fun _ _ _ h => h) (Or.inl ⟨by rfl, ?_⟩) hHeld ?_ ?_
       rotate_left
       ·rintro w' ⟨s0, s1, s2, s3, s4, s5, s6, s7, s8, s9, s10, s11⟩
        go_simp
        with_reducible rfl
       rotate_left
       ·simp only [Act.put, List.setIfInBounds_toArray, List.set_cons_zero, List.set_cons_succ, i64_w, i32_w]
        rfl
       refine pure_ (i := 5) (N := some 40) (v := ?_) (a' := ?_) #[true, true, true, true, true, true, true, false, false, true, false, true, false, true, false, false, false, false] rfl rfl (any_of HT_.out (by kernel_rfl)) (fun _ _ _ h => h) (Or.inl ⟨by rfl, ?_⟩) ?_ ?_
       rotate_left
       ·intro w'
        go_simp
        with_reducible rfl
       rotate_left
       ·simp only [Act.put, List.setIfInBounds_toArray, List.set_cons_zero, List.set_cons_succ, i64_w, i32_w]
        rfl
       refine take_ (i := 8) (N := some 43) (v := ?_) (a' := ?_) #[true, true, true, true, true, true, true, false, true, true, false, true, false, true, false, false, false, false] rfl rfl (take_ofW HT_.out HW_.out (by kernel_rfl)) (fun _ _ _ h => h) (Or.inl ⟨by rfl, ?_⟩) hHeld ?_ ?_
       rotate_left
       ·rintro w' ⟨s0, s1, s2, s3, s4, s5, s6, s7, s8, s9, s10, s11⟩
        go_simp
        with_reducible rfl
       rotate_left
       ·simp only [Act.put, List.setIfInBounds_toArray, List.set_cons_zero, List.set_cons_succ, i64_w, i32_w]
        rfl
       refine take_ (i := 10) (N := some 45) (v := ?_) (a' := ?_) #[true, true, true, true, true, true, true, false, true, true, true, true, false, true, false, false, false, false] rfl rfl (take_ofW HT_.out HW_.out (by kernel_rfl)) (fun _ _ _ h => h) (Or.inl ⟨by rfl, ?_⟩) hHeld ?_ ?_
       rotate_left
       ·rintro w' ⟨s0, s1, s2, s3, s4, s5, s6, s7, s8, s9, s10, s11⟩
        go_simp
        with_reducible rfl
       rotate_left
       ·simp only [Act.put, List.setIfInBounds_toArray, List.set_cons_zero, List.set_cons_succ, i64_w, i32_w]
        rfl
       refine take_ (i := 12) (N := some 47) (v := ?_) (a' := ?_) #[true, true, true, true, true, true, true, false, true, true, true, true, true, true, false, false, false, false] rfl rfl (take_ofW HT_.out HW_.out (by kernel_rfl)) (fun _ _ _ h => h) (Or.inl ⟨by rfl, ?_⟩) hHeld ?_ ?_
       rotate_left
       ·rintro w' ⟨s0, s1, s2, s3, s4, s5, s6, s7, s8, s9, s10, s11⟩
        go_simp
        with_reducible rfl
       rotate_left
       ·simp only [Act.put, List.setIfInBounds_toArray, List.set_cons_zero, List.set_cons_succ, i64_w, i32_w]
        rfl
       refine pure_ (i := 14) (N := some 49) (v := ?_) (a' := ?_) #[true, true, true, true, true, true, true, false, true, true, true, true, true, true, true, false, false, false] rfl rfl (any_of HT_.out (by kernel_rfl)) (fun _ _ _ h => h) (Or.inl ⟨by rfl, ?_⟩) ?_ ?_
       rotate_left
       ·intro w'
        go_simp
        with_reducible rfl
       rotate_left
       ·simp only [Act.put, List.setIfInBounds_toArray, List.set_cons_zero, List.set_cons_succ, i64_w, i32_w]
        rfl
       refine one_ (i := 7) (N := some 42) #[true, true, true, true, true, true, true, true, true, true, true, true, true, true, true, false, false, false] rfl rfl (one_of HT_.out (by kernel_rfl)) (by decide) (fun K hK => ?_)
       refine goes_ Try.func106 (by kernel_rfl) rfl #[.agg #[.slice Ao37 t219.length co37], .agg #[.int .i64 t222, .int .i64 t223, .int .i64 t224, .int .i64 t225], .int .i64 (wrap64 (a0_6 + a1)), .slice A34 y232.length c34] (by rfl) rfl rfl ar_ ?_
       with_reducible refine (spec_l2Write.calls k _ _ t219 t222 t223 t224 t225 (wrap64 (a0_6 + a1)) _ _ y232 t236 _ ?side1 ?side2 ?side3 ?side4 A15.out).mono ?_
       (case side1 => repeat (first | exact (Kd.S_reads' HO221.out).2.2 | (with_reducible refine Kd.C_alloc ?_ _) | (with_reducible refine Kd.C_drewN ?_ _) | (with_reducible refine Kd.C_drew ?_)))
       (case side2 => exact (Kd.S_reads' HO221.out).2.1)
       (case side3 => exact cS_ (by repeat (first | (with_reducible exact HR235.out) | (with_reducible refine Kd.C_alloc ?_ _) | (with_reducible refine Kd.C_drewN ?_ _) | (with_reducible refine Kd.C_drew ?_) | exact HR235.out)))
       (case side4 => exact HC235.out)
       rintro e w38 ⟨v237, rfl, ho0, hb⟩
       refine ⟨_, rfl, ?_⟩
       have HO238 := Aside0.mk (sL_ (Kd.S_new' (Kd.S_new' (Kd.S_new' ho0 (Kd.R_lt (rK_ HO218))) (Kd.S_lt (sK_ HO221))) (Kd.R_lt (rK_ HO231))) HB)
       replace HO218 := Aside0.mk (Kd.R_below (rK_ HO218) hb)
       replace HO221 := Aside0.mk (Kd.S_elder' (sK_ HO221) (Kd.S_base ho0) hb)
       replace HO231 := Aside0.mk (Kd.R_below (rK_ HO231) hb)
       replace BK214 := bB_ BK214 hb
       replace BK215 := bB_ BK215 hb
       replace BK227 := bB_ BK227 hb
       replace BK228 := bB_ BK228 hb
       replace HR235 := Aside0.mk (Kd.C_below (by repeat (first | (with_reducible exact HR235.out) | (with_reducible refine Kd.C_alloc ?_ _) | (with_reducible refine Kd.C_drewN ?_ _) | (with_reducible refine Kd.C_drew ?_) | exact HR235.out)) hb)
       replace HB := Aside0.mk (below_step (by repeat (first | (with_reducible first | exact HB.out | apply ba_ | apply bn_ | apply bd_ | refine bset_ ?_ (by assumption)) | exact HB.out)) hb)
       (try clear hb)
       (try clear hb2)
       (try clear hk)
       (try clear hi)
       (try clear ho0)
       obtain ⟨Ao39, co39, eo39⟩ := Kd.S_slice HO238.out
       (first | subst eo39 | (injection eo39 with f1_ f2_ f3_; have f4_ := f1_.symm; have f5_ := f3_.symm; clear f1_ f2_ f3_; subst f4_; subst f5_))
       refine hK.out _ _ ⟨(blk_cell BK227.out 0).trans rfl, (blk_cell BK228.out 0).trans rfl, (blk_cell BK228.out 1).trans rfl, (blk_cell BK228.out 2).trans rfl, (blk_cell BK228.out 3).trans rfl, (blk_cell BK214.out 0).trans rfl, (blk_cell BK214.out 1).trans rfl, (blk_cell BK214.out 2).trans rfl, (blk_cell BK214.out 3).trans rfl, (blk_cell BK214.out 4).trans rfl, (blk_cell BK214.out 5).trans rfl, (blk_cell BK214.out 6).trans rfl⟩ (fun hHeld => ?_)
       clear hK K
       refine norm_ (a' := ?_) ?_ ?_
       rotate_left
       ·show Act.put _ (some 42) _ = _
        simp only [Act.put, List.setIfInBounds_toArray, List.set_cons_zero, List.set_cons_succ, i64_w, i32_w]
        rfl
       refine pure_ (i := 15) (N := some 50) (v := ?_) (a' := ?_) #[true, true, true, true, true, true, true, true, true, true, true, true, true, true, true, true, false, false] rfl rfl (any_of HT_.out (by kernel_rfl)) (fun _ _ _ h => h) (Or.inl ⟨by rfl, ?_⟩) ?_ ?_
       rotate_left
       ·intro w'
        go_simp
        with_reducible rfl
       rotate_left
       ·simp only [Act.put, List.setIfInBounds_toArray, List.set_cons_zero, List.set_cons_succ, i64_w, i32_w]
        rfl
       refine one_ (i := 16) (N := none) #[true, true, true, true, true, true, true, true, true, true, true, true, true, true, true, true, true, false] rfl rfl (one_of HT_.out (by kernel_rfl)) (by decide) (fun K hK => ?_)
       have hs40 : w38.cell? ⟨gb215, 0, none⟩ = some (.slice none 0 0) := (blk_cell BK215.out 0).trans rfl
       have hfs40 := blk_frozen BK215.out 0
       have hns40_0 := NB214_215.out
       have hns40_2 := NB227_215.out
       have hns40_3 := NB228_215.out
       have hms40_0 := NB215_214.out
       have hms40_2 := NB215_227.out
       have hms40_3 := NB215_228.out
       have hs41 : w38.cell? ⟨gb215, 1, none⟩ = some (.int .i64 0) := (blk_cell BK215.out 1).trans rfl
       have hfs41 := blk_frozen BK215.out 1
       have hs42 : w38.cell? ⟨gb215, 2, none⟩ = some (.int .i64 0) := (blk_cell BK215.out 2).trans rfl
       have hfs42 := blk_frozen BK215.out 2
       have hs43 : w38.cell? ⟨gb215, 3, none⟩ = some (.int .i64 0) := (blk_cell BK215.out 3).trans rfl
       have hfs43 := blk_frozen BK215.out 3
       have hs44 : w38.cell? ⟨gb215, 4, none⟩ = some (.int .i64 0) := (blk_cell BK215.out 4).trans rfl
       have hfs44 := blk_frozen BK215.out 4
       have hs45 : w38.cell? ⟨gb215, 5, none⟩ = some (.int .i64 0) := (blk_cell BK215.out 5).trans rfl
       have hfs45 := blk_frozen BK215.out 5
       have hs46 : w38.cell? ⟨gb215, 6, none⟩ = some (.int .i64 0) := (blk_cell BK215.out 6).trans rfl
       have hfs46 := blk_frozen BK215.out 6
       refine skip_ (w1 := ?_) (by rfl) rfl ?_ ?_
       rotate_left
       ·go_simp
        rfl
       refine hK.out _ _ ⟨(by (with_reducible repeat (refine (cell_far (p := ⟨gb215, _, none⟩) NB227_215.out _).trans ?_)); exact hHeld.1), (by (with_reducible repeat (refine (cell_far (p := ⟨gb215, _, none⟩) NB228_215.out _).trans ?_)); exact hHeld.2.1), (by (with_reducible repeat (refine (cell_far (p := ⟨gb215, _, none⟩) NB228_215.out _).trans ?_)); exact hHeld.2.2.1), (by (with_reducible repeat (refine (cell_far (p := ⟨gb215, _, none⟩) NB228_215.out _).trans ?_)); exact hHeld.2.2.2.1), (by (with_reducible repeat (refine (cell_far (p := ⟨gb215, _, none⟩) NB228_215.out _).trans ?_)); exact hHeld.2.2.2.2.1), (by (with_reducible repeat (refine (cell_far (p := ⟨gb215, _, none⟩) NB214_215.out _).trans ?_)); exact hHeld.2.2.2.2.2.1), (by (with_reducible repeat (refine (cell_far (p := ⟨gb215, _, none⟩) NB214_215.out _).trans ?_)); exact hHeld.2.2.2.2.2.2.1), (by (with_reducible repeat (refine (cell_far (p := ⟨gb215, _, none⟩) NB214_215.out _).trans ?_)); exact hHeld.2.2.2.2.2.2.2.1), (by (with_reducible repeat (refine (cell_far (p := ⟨gb215, _, none⟩) NB214_215.out _).trans ?_)); exact hHeld.2.2.2.2.2.2.2.2.1), (by (with_reducible repeat (refine (cell_far (p := ⟨gb215, _, none⟩) NB214_215.out _).trans ?_)); exact hHeld.2.2.2.2.2.2.2.2.2.1), (by (with_reducible repeat (refine (cell_far (p := ⟨gb215, _, none⟩) NB214_215.out _).trans ?_)); exact hHeld.2.2.2.2.2.2.2.2.2.2.1), (by (with_reducible repeat (refine (cell_far (p := ⟨gb215, _, none⟩) NB214_215.out _).trans ?_)); exact hHeld.2.2.2.2.2.2.2.2.2.2.2)⟩ (fun hHeld => ?_)
       clear hK K
       refine pure_ (i := 17) (N := some 5) (v := ?_) (a' := ?_) #[true, true, true, true, true, true, true, true, true, true, true, true, true, true, true, true, true, true] rfl rfl (any_of HT_.out (by kernel_rfl)) (fun _ _ _ h => h) (Or.inl ⟨by rfl, ?_⟩) ?_ ?_
       rotate_left
       ·intro w'
        go_simp
        with_reducible rfl
       rotate_left
       ·simp only [Act.put, List.setIfInBounds_toArray, List.set_cons_zero, List.set_cons_succ, i64_w, i32_w]
        rfl
       refine done_ (done_of HT_.out (by kernel_rfl)) ?_
       try go_wp2
       refine bodyPost_ret (results_ct rfl _ _ gb215 34 #[.slice Ao39 t236.length co39, .int .i64 t222, .int .i64 t223, .int .i64 t224, .int .i64 t225, .int .i64 a0_5, .int .i64 (wrap64 (a0_6 + a1))] (0, 0) _ rfl (by exact fB_ BK215) Try.underlying34 rfl (by kernel_rfl)) rfl ?_
       exact ⟨_, er_, by (with_reducible repeat first | apply ks1_ | apply ks2_ | apply ks3_); exact Kd.S_mono (sf7_ gb215 (Kd.S_types HO238.out BK215.out (by decide)) (fun _ hk => hk.2)) (fun _ hk => trivial), by repeat (first | (with_reducible first | exact HB.out | apply below_alloc | apply pw_below_drewN | apply below_drew1 | refine below_set ?_ GE214.out | refine below_set ?_ GE215.out | refine below_set ?_ GE227.out | refine below_set ?_ GE228.out) | exact HB.out)⟩
      ·rw [if_neg c14] at H
       exact absurd H (by simp)
     ·rw [if_neg c13] at H
      exact absurd H (by simp)
    ·replace c11 := Bool.eq_false_iff.mpr c11
     subst c11
     rw [if_neg (show ¬ (false = true) by decide)] at H
     simp only [Option.some.injEq, Prod.mk.injEq] at H
     obtain ⟨rfl, rfl, rfl, rfl, rfl, rfl, rfl, rfl⟩ := H
     go_enter Try.func145, Try.ntmps145
     try go_wp2_with (first | ((with_reducible refine gate_dst (N := 2) rfl ?_); refine box_event ?hg (N := 2) ?hd (cs := #[.slice A0_0 l0_0.length c0_0, .int .i64 a0_1, .int .i64 a0_2, .int .i64 a0_3, .int .i64 a0_4, .int .i64 a0_5, .int .i64 a0_6]) (t := 34) ?hr ?_; (case hd => rfl); (case hg => rfl); (case hr => exact gs_); intro gb214 hg w47 hbox hb; have BK214 := Aside0.mk (hbox); have GW214 := gE_ HB hg; have GE214 := gE_ HB hg; replace HB := Aside0.mk (below_step (by repeat (first | (with_reducible first | exact HB.out | apply ba_ | apply bn_ | apply bd_) | exact HB.out)) hb); clear hb hbox hg) | ((with_reducible refine gate_dst (N := 4) rfl ?_); refine box_event ?hg (N := 4) ?hd (cs := #[.slice none 0 0, .int .i64 0, .int .i64 0, .int .i64 0, .int .i64 0, .int .i64 0, .int .i64 0]) (t := 34) ?hr ?_; (case hd => rfl); (case hg => rfl); (case hr => exact gs_); intro gb215 hg w48 hbox hb; have BK215 := Aside0.mk (hbox); have GW215 := gE_ HB hg; have GE215 := gE_ HB hg; replace HB := Aside0.mk (below_step (by repeat (first | (with_reducible first | exact HB.out | apply ba_ | apply bn_ | apply bd_ | refine bset_ ?_ (by assumption)) | exact HB.out)) hb); have NB214_215 := nB_ BK214 hg; have NB215_214 := nA_ BK214 hg; replace BK214 := bB_ BK214 hb; clear hb hbox hg))
     replace BK214 := Aside0.mk (blk_drew BK214.out)
     replace BK215 := Aside0.mk (blk_drew BK215.out)
     replace HB := Aside0.mk (below_drew1 HB.out)
     refine start_ (n := 16) (S := fun w' => True) (ds := []) #[false, false, false, false, false, false, false, false, false, false, false, false, false, false, false, false] (by kernel_rfl) rfl rfl trivial (fun hHeld => ?_); refine with_tabW spec_l6Widen.tab3 spec_l6Widen.bits3 (fun HT_ HW_ => ?_)
     generalize w48.drew = w49 at BK214 BK215 HB hHeld ⊢
     refine pure_ (i := 0) (N := some 14) (v := ?_) (a' := ?_) #[true, false, false, false, false, false, false, false, false, false, false, false, false, false, false, false] rfl rfl (any_of HT_.out (by kernel_rfl)) (fun _ _ _ h => h) (Or.inl ⟨by rfl, ?_⟩) ?_ ?_
     rotate_left
     ·intro w'
      go_simp
      with_reducible rfl
     rotate_left
     ·simp only [Act.put, List.setIfInBounds_toArray, List.set_cons_zero, List.set_cons_succ, i64_w, i32_w]
      rfl
     refine pure_ (i := 2) (N := some 16) (v := ?_) (a' := ?_) #[true, false, true, false, false, false, false, false, false, false, false, false, false, false, false, false] rfl rfl (any_of HT_.out (by kernel_rfl)) (fun _ _ _ h => h) (Or.inl ⟨by rfl, ?_⟩) ?_ ?_
     rotate_left
     ·intro w'
      go_simp
      with_reducible rfl
     rotate_left
     ·simp only [Act.put, List.setIfInBounds_toArray, List.set_cons_zero, List.set_cons_succ, i64_w, i32_w]
      rfl
     refine pure_ (i := 4) (N := some 18) (v := ?_) (a' := ?_) #[true, false, true, false, true, false, false, false, false, false, false, false, false, false, false, false] rfl rfl (any_of HT_.out (by kernel_rfl)) (fun _ _ _ h => h) (Or.inl ⟨by rfl, ?_⟩) ?_ ?_
     rotate_left
     ·intro w'
      go_simp
      with_reducible rfl
     rotate_left
     ·simp only [Act.put, List.setIfInBounds_toArray, List.set_cons_zero, List.set_cons_succ, i64_w, i32_w]
      rfl
     refine inv_at [1, 3, 5, 6, 7, 8, 9, 10, 11, 12, 13, 14, 15] (fun a0_ b a w' => ∃ (v217 : Value) (v220 : Value) (gb227 : Nat) (gb228 : Nat) (m6_ : Value) (m7_ : Value) (m8_ : Value) (m11_ : Value) (m12_ : Value), a = putSel a0_ b [(1, 15, .agg #[.slice A0_0 l0_0.length c0_0]), (3, 17, .agg #[.int .i64 a0_1, .int .i64 a0_2, .int .i64 a0_3, .int .i64 a0_4]), (5, 19, v217), (6, 20, m6_), (7, 13, m7_), (8, 21, m8_), (9, 22, .agg #[.int .i64 t222, .int .i64 t223, .int .i64 t224, .int .i64 t225]), (10, 23, .bool false), (11, 6, m11_), (12, 7, m12_), (15, 8, .bool false)] ∧ (w'.heap[gb214]? = some (.cells #[.slice A0_0 l0_0.length c0_0, .int .i64 a0_1, .int .i64 a0_2, .int .i64 a0_3, .int .i64 a0_4, .int .i64 a0_5, .int .i64 a0_6] 34 (0, 0))) ∧ (w'.heap[gb215]? = some (.cells #[.slice none 0 0, .int .i64 0, .int .i64 0, .int .i64 0, .int .i64 0, .int .i64 0, .int .i64 0] 34 (0, 0))) ∧ (Below w.heap.size w w') ∧ (b 11 = true → b 12 = true → gb228 ≠ gb227) ∧ (b 11 = true → b 12 = true → gb227 ≠ gb228) ∧ (b 5 = true → Kd.R (Kd.int .u8) 5 w' w.heap.size (fun _ => True) v217 y216) ∧ (b 6 = true → Kd.S (Kd.slice 5 (Kd.int .u8)) 29 w' w.heap.size (fun _ => True) v220 t219) ∧ (b 11 = true → b 13 = false → w'.heap[gb227]? = some (.cells #[.slice none 0 0] 31 (0, 0))) ∧ (b 11 = true → w.heap.size ≤ gb227) ∧ (b 11 = true → w.heap.size ≤ gb227) ∧ (b 11 = true → gb214 ≠ gb227) ∧ (b 11 = true → gb227 ≠ gb214) ∧ (b 11 = true → gb215 ≠ gb227) ∧ (b 11 = true → gb227 ≠ gb215) ∧ (b 12 = true → b 14 = false → w'.heap[gb228]? = some (.cells #[.int .i64 0, .int .i64 0, .int .i64 0, .int .i64 0] 32 (0, 0))) ∧ (b 12 = true → w.heap.size ≤ gb228) ∧ (b 12 = true → w.heap.size ≤ gb228) ∧ (b 12 = true → gb214 ≠ gb228) ∧ (b 12 = true → gb228 ≠ gb214) ∧ (b 12 = true → gb215 ≠ gb228) ∧ (b 12 = true → gb228 ≠ gb215) ∧ (b 13 = true → w'.heap[gb227]? = some (.cells #[v220] 31 (0, 0))) ∧ (b 14 = true → w'.heap[gb228]? = some (.cells #[.int .i64 t222, .int .i64 t223, .int .i64 t224, .int .i64 t225] 32 (0, 0))) ∧ (b 6 = true → (m6_ : Value) = .tuple #[.agg #[v220], .agg #[.int .i64 t222, .int .i64 t223, .int .i64 t224, .int .i64 t225], .bool false]) ∧ (b 7 = true → (m7_ : Value) = .tuple #[.agg #[v220], .agg #[.int .i64 t222, .int .i64 t223, .int .i64 t224, .int .i64 t225], .bool false]) ∧ (b 8 = true → (m8_ : Value) = .agg #[v220]) ∧ (b 11 = true → (m11_ : Value) = .pointer (some ⟨gb227, 0, none⟩)) ∧ (b 12 = true → (m12_ : Value) = .pointer (some ⟨gb228, 0, none⟩))) HT_.out HW_.out (by kernel_rfl) (by kernel_rfl) ?_ ?_ ?_
     ·exact ⟨.bool false, .bool false, 0, 0, .bool false, .bool false, .bool false, .bool false, .bool false, by simp only [putSel, Bool.false_eq_true, if_false], BK214.out, BK215.out, HB.out, fun h_ => absurd h_ (by decide), fun h_ => absurd h_ (by decide), fun h_ => absurd h_ (by decide), fun h_ => absurd h_ (by decide), fun h_ => absurd h_ (by decide), fun h_ => absurd h_ (by decide), fun h_ => absurd h_ (by decide), fun h_ => absurd h_ (by decide), fun h_ => absurd h_ (by decide), fun h_ => absurd h_ (by decide), fun h_ => absurd h_ (by decide), fun h_ => absurd h_ (by decide), fun h_ => absurd h_ (by decide), fun h_ => absurd h_ (by decide), fun h_ => absurd h_ (by decide), fun h_ => absurd h_ (by decide), fun h_ => absurd h_ (by decide), fun h_ => absurd h_ (by decide), fun h_ => absurd h_ (by decide), fun h_ => absurd h_ (by decide), fun h_ => absurd h_ (by decide), fun h_ => absurd h_ (by decide), fun h_ => absurd h_ (by decide), fun h_ => absurd h_ (by decide), fun h_ => absurd h_ (by decide)⟩
     ·skip
      clear BK214 BK215 HB
      refine steps_cons ?_ ?_
      ·rintro b a w' ⟨v217, v220, gb227, gb228, m6_, m7_, m8_, m11_, m12_, ha, Q_BK214, Q_BK215, Q_HB, Q_NB228_227, Q_NB227_228, Q_HO218, Q_HO221, Q_BK227, Q_GW227, Q_GE227, Q_NB214_227, Q_NB227_214, Q_NB215_227, Q_NB227_215, Q_BK228, Q_GW228, Q_GE228, Q_NB214_228, Q_NB228_214, Q_NB215_228, Q_NB228_215, Q_BK227_e13, Q_BK228_e14, Q_X6_, Q_X7_, Q_X8_, Q_X11_, Q_X12_⟩ hb_ hon hoff
       refine ⟨_, rfl, fun K hK => ?_⟩
       have e14 : a.tmps[14]? = some (.pointer (some ⟨gb214, 0, none⟩)) := by rw [ha]; exact (putSel_off rfl).trans rfl
       replace ha := Aside0.mk ha
       have BK214 := Aside0.mk Q_BK214
       have BK215 := Aside0.mk Q_BK215
       have HB := Aside0.mk Q_HB
       have hc0_ : w'.cell? ⟨gb214, 0, none⟩ = some (.slice A0_0 l0_0.length c0_0) := (blk_cell BK214.out 0).trans rfl
       have hc1_ : w'.cell? ⟨gb214, 1, none⟩ = some (.int .i64 a0_1) := (blk_cell BK214.out 1).trans rfl
       have hc2_ : w'.cell? ⟨gb214, 2, none⟩ = some (.int .i64 a0_2) := (blk_cell BK214.out 2).trans rfl
       have hc3_ : w'.cell? ⟨gb214, 3, none⟩ = some (.int .i64 a0_3) := (blk_cell BK214.out 3).trans rfl
       have hc4_ : w'.cell? ⟨gb214, 4, none⟩ = some (.int .i64 a0_4) := (blk_cell BK214.out 4).trans rfl
       have hc5_ : w'.cell? ⟨gb214, 5, none⟩ = some (.int .i64 a0_5) := (blk_cell BK214.out 5).trans rfl
       have hc6_ : w'.cell? ⟨gb214, 6, none⟩ = some (.int .i64 a0_6) := (blk_cell BK214.out 6).trans rfl
       refine value_ (w1 := w') (v := .agg #[.slice A0_0 l0_0.length c0_0]) (by rfl) rfl ?_ ?_
       ·go_simp
        (try simp only [i64_w])
        try rfl
       refine hK.out _ _ ⟨v217, v220, gb227, gb228, m6_, m7_, m8_, m11_, m12_, (by rw [ha.out]; exact putSel_upk 0 hb_ rfl rfl rfl), Q_BK214, Q_BK215, Q_HB, Q_NB228_227, Q_NB227_228, Q_HO218, fun h0_ => absurd ((hoff 6 (by kernel_rfl)).symm.trans h0_) (by decide), Q_BK227, Q_GW227, Q_GE227, Q_NB214_227, Q_NB227_214, Q_NB215_227, Q_NB227_215, Q_BK228, Q_GW228, Q_GE228, Q_NB214_228, Q_NB228_214, Q_NB215_228, Q_NB228_215, fun h0_ => absurd ((hoff 13 (by kernel_rfl)).symm.trans h0_) (by decide), fun h0_ => absurd ((hoff 14 (by kernel_rfl)).symm.trans h0_) (by decide), fun h0_ => absurd ((hoff 6 (by kernel_rfl)).symm.trans h0_) (by decide), fun h0_ => absurd ((hoff 7 (by kernel_rfl)).symm.trans h0_) (by decide), fun h0_ => absurd ((hoff 8 (by kernel_rfl)).symm.trans h0_) (by decide), Q_X11_, Q_X12_⟩
      refine steps_cons ?_ ?_
      ·rintro b a w' ⟨v217, v220, gb227, gb228, m6_, m7_, m8_, m11_, m12_, ha, Q_BK214, Q_BK215, Q_HB, Q_NB228_227, Q_NB227_228, Q_HO218, Q_HO221, Q_BK227, Q_GW227, Q_GE227, Q_NB214_227, Q_NB227_214, Q_NB215_227, Q_NB227_215, Q_BK228, Q_GW228, Q_GE228, Q_NB214_228, Q_NB228_214, Q_NB215_228, Q_NB228_215, Q_BK227_e13, Q_BK228_e14, Q_X6_, Q_X7_, Q_X8_, Q_X11_, Q_X12_⟩ hb_ hon hoff
       refine ⟨_, rfl, fun K hK => ?_⟩
       have e16 : a.tmps[16]? = some (.pointer (some ⟨gb214, 1, none⟩)) := by rw [ha]; exact (putSel_off rfl).trans rfl
       replace ha := Aside0.mk ha
       have BK214 := Aside0.mk Q_BK214
       have BK215 := Aside0.mk Q_BK215
       have HB := Aside0.mk Q_HB
       have hc0_ : w'.cell? ⟨gb214, 0, none⟩ = some (.slice A0_0 l0_0.length c0_0) := (blk_cell BK214.out 0).trans rfl
       have hc1_ : w'.cell? ⟨gb214, 1, none⟩ = some (.int .i64 a0_1) := (blk_cell BK214.out 1).trans rfl
       have hc2_ : w'.cell? ⟨gb214, 2, none⟩ = some (.int .i64 a0_2) := (blk_cell BK214.out 2).trans rfl
       have hc3_ : w'.cell? ⟨gb214, 3, none⟩ = some (.int .i64 a0_3) := (blk_cell BK214.out 3).trans rfl
       have hc4_ : w'.cell? ⟨gb214, 4, none⟩ = some (.int .i64 a0_4) := (blk_cell BK214.out 4).trans rfl
       have hc5_ : w'.cell? ⟨gb214, 5, none⟩ = some (.int .i64 a0_5) := (blk_cell BK214.out 5).trans rfl
       have hc6_ : w'.cell? ⟨gb214, 6, none⟩ = some (.int .i64 a0_6) := (blk_cell BK214.out 6).trans rfl
       refine value_ (w1 := w') (v := .agg #[.int .i64 a0_1, .int .i64 a0_2, .int .i64 a0_3, .int .i64 a0_4]) (by rfl) rfl ?_ ?_
       ·go_simp
        (try simp only [i64_w])
        try rfl
       refine hK.out _ _ ⟨v217, v220, gb227, gb228, m6_, m7_, m8_, m11_, m12_, (by rw [ha.out]; exact putSel_upk 1 hb_ rfl rfl rfl), Q_BK214, Q_BK215, Q_HB, Q_NB228_227, Q_NB227_228, Q_HO218, fun h0_ => absurd ((hoff 6 (by kernel_rfl)).symm.trans h0_) (by decide), Q_BK227, Q_GW227, Q_GE227, Q_NB214_227, Q_NB227_214, Q_NB215_227, Q_NB227_215, Q_BK228, Q_GW228, Q_GE228, Q_NB214_228, Q_NB228_214, Q_NB215_228, Q_NB228_215, fun h0_ => absurd ((hoff 13 (by kernel_rfl)).symm.trans h0_) (by decide), fun h0_ => absurd ((hoff 14 (by kernel_rfl)).symm.trans h0_) (by decide), fun h0_ => absurd ((hoff 6 (by kernel_rfl)).symm.trans h0_) (by decide), fun h0_ => absurd ((hoff 7 (by kernel_rfl)).symm.trans h0_) (by decide), fun h0_ => absurd ((hoff 8 (by kernel_rfl)).symm.trans h0_) (by decide), Q_X11_, Q_X12_⟩
      refine steps_cons ?_ ?_
      ·rintro b a w' ⟨v217, v220, gb227, gb228, m6_, m7_, m8_, m11_, m12_, ha, Q_BK214, Q_BK215, Q_HB, Q_NB228_227, Q_NB227_228, Q_HO218, Q_HO221, Q_BK227, Q_GW227, Q_GE227, Q_NB214_227, Q_NB227_214, Q_NB215_227, Q_NB227_215, Q_BK228, Q_GW228, Q_GE228, Q_NB214_228, Q_NB228_214, Q_NB215_228, Q_NB228_215, Q_BK227_e13, Q_BK228_e14, Q_X6_, Q_X7_, Q_X8_, Q_X11_, Q_X12_⟩ hb_ hon hoff
       refine ⟨_, rfl, fun K hK => ?_⟩
       have e18 : a.tmps[18]? = some (.int .i64 a1) := by rw [ha]; exact (putSel_off rfl).trans rfl
       replace ha := Aside0.mk ha
       have BK214 := Aside0.mk Q_BK214
       have BK215 := Aside0.mk Q_BK215
       have HB := Aside0.mk Q_HB
       refine Kd.R_make_step (Kd.int .u8) _ 5 (by rfl) (N := 19) rfl 29 _ _ rfl a1 (by first | rfl | (simp [Act.eval, e18]; done)) (by first | rfl | (simp [Act.eval, e18]; done)) Try.underlying29 (.int .u8 0) 1 info5 rfl (by decide) (by omega) 0 (ok := fun _ => True) (okp := fun _ => True) rfl (fun _ hk => hk) trivial (of_decide_eq_true as_) (Nat.le_trans (Nat.mul_le_mul_right _ (of_decide_eq_true as_ : a1.toNat ≤ 281474976710656)) (by omega)) (Below.refl _ _) (Nat.le_refl _) ?_
       intro v217 w50 ho51 hb hg_ hnew_
       clear hg_ hnew_
       (first | rw [← Ny216.out] at ho51 | (simp only [Int.reduceToNat] at ho51; rw [← Ny216.out] at ho51))
       have n0_ := Aside0.mk (rL_ ho51 HB)
       have n1_ := bB_ BK214 hb
       have n2_ := bB_ BK215 hb
       have n3_ := Aside0.mk (below_step (by repeat (first | (with_reducible first | exact HB.out | apply ba_ | apply bn_ | apply bd_ | refine bset_ ?_ (by assumption)) | exact HB.out)) hb)
       have z_BK227 := fun (h0_ : b 11 = true) (h1_ : b 13 = false) => (show w50.heap[gb227]? = some (.cells #[.slice none 0 0] 31 (0, 0)) from by first | exact (blk_below (g := gb227) (o := .cells #[.slice none 0 0] 31 (0, 0)) (by (with_reducible repeat first | apply kb1_ | apply kb2_ | apply kb3_); exact (Q_BK227 h0_ h1_)) hb))
       have z_BK228 := fun (h0_ : b 12 = true) (h1_ : b 14 = false) => (show w50.heap[gb228]? = some (.cells #[.int .i64 0, .int .i64 0, .int .i64 0, .int .i64 0] 32 (0, 0)) from by first | exact (blk_below (g := gb228) (o := .cells #[.int .i64 0, .int .i64 0, .int .i64 0, .int .i64 0] 32 (0, 0)) (by (with_reducible repeat first | apply kb1_ | apply kb2_ | apply kb3_); exact (Q_BK228 h0_ h1_)) hb))
       clear BK214
       clear BK215
       clear HB
       have HO218 := n0_
       have BK214 := n1_
       have BK215 := n2_
       have HB := n3_
       clear n0_ n1_ n2_ n3_
       clear hb ho51
       refine hK.out _ _ ⟨v217, v220, gb227, gb228, m6_, m7_, m8_, m11_, m12_, (by rw [ha.out]; exact putSel_upk 2 hb_ rfl rfl rfl), (bK_ BK214), (bK_ BK215), (by repeat (first | (with_reducible first | exact HB.out | apply ba_ | apply bn_ | apply bd_ | refine bset_ ?_ (by assumption)) | exact HB.out)), Q_NB228_227, Q_NB227_228, fun _ => (rK_ HO218), fun h0_ => absurd ((hoff 6 (by kernel_rfl)).symm.trans h0_) (by decide), z_BK227, Q_GW227, Q_GE227, Q_NB214_227, Q_NB227_214, Q_NB215_227, Q_NB227_215, z_BK228, Q_GW228, Q_GE228, Q_NB214_228, Q_NB228_214, Q_NB215_228, Q_NB228_215, fun h0_ => absurd ((hoff 13 (by kernel_rfl)).symm.trans h0_) (by decide), fun h0_ => absurd ((hoff 14 (by kernel_rfl)).symm.trans h0_) (by decide), fun h0_ => absurd ((hoff 6 (by kernel_rfl)).symm.trans h0_) (by decide), fun h0_ => absurd ((hoff 7 (by kernel_rfl)).symm.trans h0_) (by decide), fun h0_ => absurd ((hoff 8 (by kernel_rfl)).symm.trans h0_) (by decide), Q_X11_, Q_X12_⟩
      refine steps_cons ?_ ?_
      ·rintro b a w' ⟨v217, v220, gb227, gb228, m6_, m7_, m8_, m11_, m12_, ha, Q_BK214, Q_BK215, Q_HB, Q_NB228_227, Q_NB227_228, Q_HO218, Q_HO221, Q_BK227, Q_GW227, Q_GE227, Q_NB214_227, Q_NB227_214, Q_NB215_227, Q_NB227_215, Q_BK228, Q_GW228, Q_GE228, Q_NB214_228, Q_NB228_214, Q_NB215_228, Q_NB228_215, Q_BK227_e13, Q_BK228_e14, Q_X6_, Q_X7_, Q_X8_, Q_X11_, Q_X12_⟩ hb_ hon hoff
       refine ⟨_, rfl, fun K hK => ?_⟩
       have e15 : a.tmps[15]? = some (.agg #[.slice A0_0 l0_0.length c0_0]) := by rw [ha]; exact putSel_on (e := (1, 15, .agg #[.slice A0_0 l0_0.length c0_0])) 0 rfl rfl (hon 1 (by kernel_rfl)) rfl
       have e17 : a.tmps[17]? = some (.agg #[.int .i64 a0_1, .int .i64 a0_2, .int .i64 a0_3, .int .i64 a0_4]) := by rw [ha]; exact putSel_on (e := (3, 17, .agg #[.int .i64 a0_1, .int .i64 a0_2, .int .i64 a0_3, .int .i64 a0_4])) 1 rfl rfl (hon 3 (by kernel_rfl)) rfl
       have e19 : a.tmps[19]? = some (v217) := by rw [ha]; exact putSel_on (e := (5, 19, v217)) 2 rfl rfl (hon 5 (by kernel_rfl)) rfl
       replace ha := Aside0.mk ha
       have BK214 := Aside0.mk Q_BK214
       have BK215 := Aside0.mk Q_BK215
       have HB := Aside0.mk Q_HB
       have HO218 := Aside0.mk (Q_HO218 (hon 5 (by kernel_rfl)))
       obtain ⟨Ao53, co53, eo53⟩ := Kd.R_slice HO218.out
       (first | subst eo53 | (injection eo53 with f1_ f2_ f3_; have f4_ := f1_.symm; have f5_ := f3_.symm; clear f1_ f2_ f3_; subst f4_; subst f5_))
       refine goes_ Try.func184 (by kernel_rfl) rfl #[.agg #[.slice A0_0 l0_0.length c0_0], .agg #[.int .i64 a0_1, .int .i64 a0_2, .int .i64 a0_3, .int .i64 a0_4], .slice Ao53 y216.length co53] (by rfl) rfl rfl (by first | (simp only [List.map_toArray, List.map_cons, List.map_nil, Act.eval, Array.getD_eq_getD_getElem?, Option.getD_some, e15, e17, e19]; done) | (simp only [List.map_toArray, List.map_cons, List.map_nil, Act.eval, Array.getD_eq_getD_getElem?, Option.getD_some, e15, e17, e19]; rfl)) ?_
       with_reducible refine (spec_l2Append.calls k _ _ l0_0 a0_1 a0_2 a0_3 a0_4 _ _ y216 t219 t222 t223 t224 t225 false _ ?side1 ?side2 ?side3 ?side4 A10.out).mono ?_
       (case side1 => exact cS_ (Kd.C_below HR0_0.out HB.out))
       (case side2 => exact HC0_0.out)
       (case side3 => repeat (first | exact (Kd.R_reads' HO218.out).2.2 | (with_reducible refine Kd.C_alloc ?_ _) | (with_reducible refine Kd.C_drewN ?_ _) | (with_reducible refine Kd.C_drew ?_)))
       (case side4 => exact (Kd.R_reads' HO218.out).2.1)
       rintro e w54 ⟨v220, rfl, ho0, hb⟩
       refine ⟨_, rfl, ?_⟩
       have n0_ := Aside0.mk (Kd.R_below (rK_ HO218) hb)
       have n1_ := Aside0.mk (sL_ (Kd.S_new' ho0 (Kd.R_lt (rK_ HO218))) HB)
       have n2_ := bB_ BK214 hb
       have n3_ := bB_ BK215 hb
       have n4_ := Aside0.mk (below_step (by repeat (first | (with_reducible first | exact HB.out | apply ba_ | apply bn_ | apply bd_ | refine bset_ ?_ (by assumption)) | exact HB.out)) hb)
       have z_BK227 := fun (h0_ : b 11 = true) (h1_ : b 13 = false) => (show w54.heap[gb227]? = some (.cells #[.slice none 0 0] 31 (0, 0)) from by first | exact (blk_below (g := gb227) (o := .cells #[.slice none 0 0] 31 (0, 0)) (by (with_reducible repeat first | apply kb1_ | apply kb2_ | apply kb3_); exact (Q_BK227 h0_ h1_)) hb))
       have z_BK228 := fun (h0_ : b 12 = true) (h1_ : b 14 = false) => (show w54.heap[gb228]? = some (.cells #[.int .i64 0, .int .i64 0, .int .i64 0, .int .i64 0] 32 (0, 0)) from by first | exact (blk_below (g := gb228) (o := .cells #[.int .i64 0, .int .i64 0, .int .i64 0, .int .i64 0] 32 (0, 0)) (by (with_reducible repeat first | apply kb1_ | apply kb2_ | apply kb3_); exact (Q_BK228 h0_ h1_)) hb))
       clear HO218
       clear BK214
       clear BK215
       clear HB
       have HO218 := n0_
       have HO221 := n1_
       have BK214 := n2_
       have BK215 := n3_
       have HB := n4_
       clear n0_ n1_ n2_ n3_ n4_
       (try clear hb)
       (try clear hb2)
       (try clear hk)
       (try clear hi)
       (try clear ho0)
       refine hK.out _ _ ⟨.slice Ao53 y216.length co53, v220, gb227, gb228, (.tuple #[.agg #[v220], .agg #[.int .i64 t222, .int .i64 t223, .int .i64 t224, .int .i64 t225], .bool false]), m7_, m8_, m11_, m12_, (by rw [ha.out]; exact putSel_upk 3 hb_ rfl rfl rfl), (bK_ BK214), (bK_ BK215), (by repeat (first | (with_reducible first | exact HB.out | apply ba_ | apply bn_ | apply bd_ | refine bset_ ?_ (by assumption)) | exact HB.out)), Q_NB228_227, Q_NB227_228, fun _ => (rK_ HO218), fun _ => (by (with_reducible repeat first | apply ks1_ | apply ks2_ | apply ks3_); exact Kd.S_mono HO221.out (fun _ hk => by first | exact hk.2 | trivial | exact hk.1)), z_BK227, Q_GW227, Q_GE227, Q_NB214_227, Q_NB227_214, Q_NB215_227, Q_NB227_215, z_BK228, Q_GW228, Q_GE228, Q_NB214_228, Q_NB228_214, Q_NB215_228, Q_NB228_215, fun h0_ => absurd ((hoff 13 (by kernel_rfl)).symm.trans h0_) (by decide), fun h0_ => absurd ((hoff 14 (by kernel_rfl)).symm.trans h0_) (by decide), fun _ => rfl, fun h0_ => absurd ((hoff 7 (by kernel_rfl)).symm.trans h0_) (by decide), fun h0_ => absurd ((hoff 8 (by kernel_rfl)).symm.trans h0_) (by decide), Q_X11_, Q_X12_⟩
      refine steps_cons ?_ ?_
      ·rintro b a w' ⟨v217, v220, gb227, gb228, m6_, m7_, m8_, m11_, m12_, ha, Q_BK214, Q_BK215, Q_HB, Q_NB228_227, Q_NB227_228, Q_HO218, Q_HO221, Q_BK227, Q_GW227, Q_GE227, Q_NB214_227, Q_NB227_214, Q_NB215_227, Q_NB227_215, Q_BK228, Q_GW228, Q_GE228, Q_NB214_228, Q_NB228_214, Q_NB215_228, Q_NB228_215, Q_BK227_e13, Q_BK228_e14, Q_X6_, Q_X7_, Q_X8_, Q_X11_, Q_X12_⟩ hb_ hon hoff
       refine ⟨_, rfl, fun K hK => ?_⟩
       have e20 : a.tmps[20]? = some (m6_) := by rw [ha]; exact putSel_on (e := (6, 20, m6_)) 3 rfl rfl (hon 6 (by kernel_rfl)) rfl
       rw [Q_X6_ (hon 6 (by kernel_rfl))] at e20
       replace ha := Aside0.mk ha
       have BK214 := Aside0.mk Q_BK214
       have BK215 := Aside0.mk Q_BK215
       have HB := Aside0.mk Q_HB
       have HO218 := Aside0.mk (Q_HO218 (hon 5 (by kernel_rfl)))
       have HO221 := Aside0.mk (Q_HO221 (hon 6 (by kernel_rfl)))
       refine value_ (w1 := w') (v := .tuple #[.agg #[v220], .agg #[.int .i64 t222, .int .i64 t223, .int .i64 t224, .int .i64 t225], .bool false]) (by rfl) rfl ?_ ?_
       ·go_simp
        (try simp only [i64_w])
        try rfl
       refine hK.out _ _ ⟨v217, v220, gb227, gb228, m6_, (.tuple #[.agg #[v220], .agg #[.int .i64 t222, .int .i64 t223, .int .i64 t224, .int .i64 t225], .bool false]), m8_, m11_, m12_, (by rw [ha.out]; exact putSel_upk 4 hb_ rfl rfl rfl), Q_BK214, Q_BK215, Q_HB, Q_NB228_227, Q_NB227_228, Q_HO218, Q_HO221, Q_BK227, Q_GW227, Q_GE227, Q_NB214_227, Q_NB227_214, Q_NB215_227, Q_NB227_215, Q_BK228, Q_GW228, Q_GE228, Q_NB214_228, Q_NB228_214, Q_NB215_228, Q_NB228_215, fun h0_ => absurd ((hoff 13 (by kernel_rfl)).symm.trans h0_) (by decide), fun h0_ => absurd ((hoff 14 (by kernel_rfl)).symm.trans h0_) (by decide), Q_X6_, fun _ => rfl, fun h0_ => absurd ((hoff 8 (by kernel_rfl)).symm.trans h0_) (by decide), Q_X11_, Q_X12_⟩
      refine steps_cons ?_ ?_
      ·rintro b a w' ⟨v217, v220, gb227, gb228, m6_, m7_, m8_, m11_, m12_, ha, Q_BK214, Q_BK215, Q_HB, Q_NB228_227, Q_NB227_228, Q_HO218, Q_HO221, Q_BK227, Q_GW227, Q_GE227, Q_NB214_227, Q_NB227_214, Q_NB215_227, Q_NB227_215, Q_BK228, Q_GW228, Q_GE228, Q_NB214_228, Q_NB228_214, Q_NB215_228, Q_NB228_215, Q_BK227_e13, Q_BK228_e14, Q_X6_, Q_X7_, Q_X8_, Q_X11_, Q_X12_⟩ hb_ hon hoff
       refine ⟨_, rfl, fun K hK => ?_⟩
       have e13 : a.tmps[13]? = some (m7_) := by rw [ha]; exact putSel_on (e := (7, 13, m7_)) 4 rfl rfl (hon 7 (by kernel_rfl)) rfl
       rw [Q_X7_ (hon 7 (by kernel_rfl))] at e13
       replace ha := Aside0.mk ha
       have BK214 := Aside0.mk Q_BK214
       have BK215 := Aside0.mk Q_BK215
       have HB := Aside0.mk Q_HB
       have HO218 := Aside0.mk (Q_HO218 (hon 5 (by kernel_rfl)))
       have HO221 := Aside0.mk (Q_HO221 (hon 6 (by kernel_rfl)))
       refine value_ (w1 := w') (v := .agg #[v220]) (by rfl) rfl ?_ ?_
       ·go_simp
        (try simp only [i64_w])
        try rfl
       refine hK.out _ _ ⟨v217, v220, gb227, gb228, m6_, m7_, (.agg #[v220]), m11_, m12_, (by rw [ha.out]; exact putSel_upk 5 hb_ rfl rfl rfl), Q_BK214, Q_BK215, Q_HB, Q_NB228_227, Q_NB227_228, Q_HO218, Q_HO221, Q_BK227, Q_GW227, Q_GE227, Q_NB214_227, Q_NB227_214, Q_NB215_227, Q_NB227_215, Q_BK228, Q_GW228, Q_GE228, Q_NB214_228, Q_NB228_214, Q_NB215_228, Q_NB228_215, fun h0_ => absurd ((hoff 13 (by kernel_rfl)).symm.trans h0_) (by decide), fun h0_ => absurd ((hoff 14 (by kernel_rfl)).symm.trans h0_) (by decide), Q_X6_, Q_X7_, fun _ => rfl, Q_X11_, Q_X12_⟩
      refine steps_cons ?_ ?_
      ·rintro b a w' ⟨v217, v220, gb227, gb228, m6_, m7_, m8_, m11_, m12_, ha, Q_BK214, Q_BK215, Q_HB, Q_NB228_227, Q_NB227_228, Q_HO218, Q_HO221, Q_BK227, Q_GW227, Q_GE227, Q_NB214_227, Q_NB227_214, Q_NB215_227, Q_NB227_215, Q_BK228, Q_GW228, Q_GE228, Q_NB214_228, Q_NB228_214, Q_NB215_228, Q_NB228_215, Q_BK227_e13, Q_BK228_e14, Q_X6_, Q_X7_, Q_X8_, Q_X11_, Q_X12_⟩ hb_ hon hoff
       refine ⟨_, rfl, fun K hK => ?_⟩
       have e13 : a.tmps[13]? = some (m7_) := by rw [ha]; exact putSel_on (e := (7, 13, m7_)) 4 rfl rfl (hon 7 (by kernel_rfl)) rfl
       rw [Q_X7_ (hon 7 (by kernel_rfl))] at e13
       replace ha := Aside0.mk ha
       have BK214 := Aside0.mk Q_BK214
       have BK215 := Aside0.mk Q_BK215
       have HB := Aside0.mk Q_HB
       have HO218 := Aside0.mk (Q_HO218 (hon 5 (by kernel_rfl)))
       have HO221 := Aside0.mk (Q_HO221 (hon 6 (by kernel_rfl)))
       refine value_ (w1 := w') (v := .agg #[.int .i64 t222, .int .i64 t223, .int .i64 t224, .int .i64 t225]) (by rfl) rfl ?_ ?_
       ·go_simp
        (try simp only [i64_w])
        try rfl
       refine hK.out _ _ ⟨v217, v220, gb227, gb228, m6_, m7_, m8_, m11_, m12_, (by rw [ha.out]; exact putSel_upk 6 hb_ rfl rfl rfl), Q_BK214, Q_BK215, Q_HB, Q_NB228_227, Q_NB227_228, Q_HO218, Q_HO221, Q_BK227, Q_GW227, Q_GE227, Q_NB214_227, Q_NB227_214, Q_NB215_227, Q_NB227_215, Q_BK228, Q_GW228, Q_GE228, Q_NB214_228, Q_NB228_214, Q_NB215_228, Q_NB228_215, Q_BK227_e13, fun h0_ => absurd ((hoff 14 (by kernel_rfl)).symm.trans h0_) (by decide), Q_X6_, Q_X7_, Q_X8_, Q_X11_, Q_X12_⟩
      refine steps_cons ?_ ?_
      ·rintro b a w' ⟨v217, v220, gb227, gb228, m6_, m7_, m8_, m11_, m12_, ha, Q_BK214, Q_BK215, Q_HB, Q_NB228_227, Q_NB227_228, Q_HO218, Q_HO221, Q_BK227, Q_GW227, Q_GE227, Q_NB214_227, Q_NB227_214, Q_NB215_227, Q_NB227_215, Q_BK228, Q_GW228, Q_GE228, Q_NB214_228, Q_NB228_214, Q_NB215_228, Q_NB228_215, Q_BK227_e13, Q_BK228_e14, Q_X6_, Q_X7_, Q_X8_, Q_X11_, Q_X12_⟩ hb_ hon hoff
       refine ⟨_, rfl, fun K hK => ?_⟩
       have e13 : a.tmps[13]? = some (m7_) := by rw [ha]; exact putSel_on (e := (7, 13, m7_)) 4 rfl rfl (hon 7 (by kernel_rfl)) rfl
       rw [Q_X7_ (hon 7 (by kernel_rfl))] at e13
       replace ha := Aside0.mk ha
       have BK214 := Aside0.mk Q_BK214
       have BK215 := Aside0.mk Q_BK215
       have HB := Aside0.mk Q_HB
       have HO218 := Aside0.mk (Q_HO218 (hon 5 (by kernel_rfl)))
       have HO221 := Aside0.mk (Q_HO221 (hon 6 (by kernel_rfl)))
       refine value_ (w1 := w') (v := .bool false) (by rfl) rfl ?_ ?_
       ·go_simp
        (try simp only [i64_w])
        try rfl
       refine hK.out _ _ ⟨v217, v220, gb227, gb228, m6_, m7_, m8_, m11_, m12_, (by rw [ha.out]; exact putSel_upk 7 hb_ rfl rfl rfl), Q_BK214, Q_BK215, Q_HB, Q_NB228_227, Q_NB227_228, Q_HO218, Q_HO221, Q_BK227, Q_GW227, Q_GE227, Q_NB214_227, Q_NB227_214, Q_NB215_227, Q_NB227_215, Q_BK228, Q_GW228, Q_GE228, Q_NB214_228, Q_NB228_214, Q_NB215_228, Q_NB228_215, Q_BK227_e13, Q_BK228_e14, Q_X6_, Q_X7_, Q_X8_, Q_X11_, Q_X12_⟩
      refine steps_cons ?_ ?_
      ·rintro b a w' ⟨v217, v220, gb227, gb228, m6_, m7_, m8_, m11_, m12_, ha, Q_BK214, Q_BK215, Q_HB, Q_NB228_227, Q_NB227_228, Q_HO218, Q_HO221, Q_BK227, Q_GW227, Q_GE227, Q_NB214_227, Q_NB227_214, Q_NB215_227, Q_NB227_215, Q_BK228, Q_GW228, Q_GE228, Q_NB214_228, Q_NB228_214, Q_NB215_228, Q_NB228_215, Q_BK227_e13, Q_BK228_e14, Q_X6_, Q_X7_, Q_X8_, Q_X11_, Q_X12_⟩ hb_ hon hoff
       refine ⟨_, rfl, fun K hK => ?_⟩
       replace ha := Aside0.mk ha
       have BK214 := Aside0.mk Q_BK214
       have BK215 := Aside0.mk Q_BK215
       have HB := Aside0.mk Q_HB
       refine box_step ?hg (N := 6) ?hd (cs := #[.slice none 0 0]) (t := 31) ?hr ?_; (case hd => rfl); (case hg => rfl); (case hr => exact gs_)
       intro gb227 hg w50 hbox hb
       have n0_ := bB_ BK214 hb
       have n1_ := bB_ BK215 hb
       have n2_ := Aside0.mk (below_step (by repeat (first | (with_reducible first | exact HB.out | apply ba_ | apply bn_ | apply bd_ | refine bset_ ?_ (by assumption)) | exact HB.out)) hb)
       have n3_ := Aside0.mk (hbox)
       have n4_ := gE_ HB hg
       have n5_ := gE_ HB hg
       have n6_ := nB_ BK214 hg
       have n7_ := nA_ BK214 hg
       have n8_ := nB_ BK215 hg
       have n9_ := nA_ BK215 hg
       have z_NB228_227 := fun (h0_ : up b 11 11 = true) (h1_ : up b 11 12 = true) => (show gb228 ≠ gb227 from (by rw [hg]; exact Nat.ne_of_lt (by cases h9_ : b 14 with | false => exact blk_lt (Q_BK228 (by simpa [up] using h1_) h9_) | true => exact blk_lt (Q_BK228_e14 h9_))))
       have z_NB227_228 := fun (h0_ : up b 11 11 = true) (h1_ : up b 11 12 = true) => (show gb227 ≠ gb228 from (by rw [hg]; exact Nat.ne_of_gt (by cases h9_ : b 14 with | false => exact blk_lt (Q_BK228 (by simpa [up] using h1_) h9_) | true => exact blk_lt (Q_BK228_e14 h9_))))
       have z_HO218 := fun (h0_ : b 5 = true) => (show Kd.R (Kd.int .u8) 5 w50 w.heap.size (fun _ => True) v217 y216 from by first | exact (Kd.R_below (by (with_reducible repeat first | apply kr1_ | apply kr2_ | apply kr3_); exact (Q_HO218 h0_)) hb) | exact Kd.R_mono (Kd.R_below (by (with_reducible repeat first | apply kr1_ | apply kr2_ | apply kr3_); exact (Q_HO218 h0_)) hb) (fun _ h_ => by first | trivial | exact h_ | exact h_.1))
       have z_HO221 := fun (h0_ : b 6 = true) => (show Kd.S (Kd.slice 5 (Kd.int .u8)) 29 w50 w.heap.size (fun _ => True) v220 t219 from by first | exact (Kd.S_below (by (with_reducible repeat first | apply ks1_ | apply ks2_ | apply ks3_); exact (Q_HO221 h0_)) hb) | exact Kd.S_mono (Kd.S_below (by (with_reducible repeat first | apply ks1_ | apply ks2_ | apply ks3_); exact (Q_HO221 h0_)) hb) (fun _ h_ => by first | trivial | exact h_ | exact h_.1))
       have z_BK228 := fun (h0_ : b 12 = true) (h1_ : b 14 = false) => (show w50.heap[gb228]? = some (.cells #[.int .i64 0, .int .i64 0, .int .i64 0, .int .i64 0] 32 (0, 0)) from by first | exact (blk_below (g := gb228) (o := .cells #[.int .i64 0, .int .i64 0, .int .i64 0, .int .i64 0] 32 (0, 0)) (by (with_reducible repeat first | apply kb1_ | apply kb2_ | apply kb3_); exact (Q_BK228 h0_ h1_)) hb))
       clear BK214
       clear BK215
       clear HB
       have BK214 := n0_
       have BK215 := n1_
       have HB := n2_
       have BK227 := n3_
       have GW227 := n4_
       have GE227 := n5_
       have NB214_227 := n6_
       have NB227_214 := n7_
       have NB215_227 := n8_
       have NB227_215 := n9_
       clear n0_ n1_ n2_ n3_ n4_ n5_ n6_ n7_ n8_ n9_
       clear hb hbox hg
       refine hK.out _ _ ⟨v217, v220, gb227, gb228, m6_, m7_, m8_, (.pointer (some ⟨gb227, 0, none⟩)), m12_, (by rw [ha.out]; exact putSel_upk 8 hb_ rfl rfl rfl), (bK_ BK214), (bK_ BK215), (by repeat (first | (with_reducible first | exact HB.out | apply ba_ | apply bn_ | apply bd_ | refine bset_ ?_ (by assumption)) | exact HB.out)), z_NB228_227, z_NB227_228, z_HO218, z_HO221, fun _ _ => (bK_ BK227), fun _ => GW227.out, fun _ => GE227.out, fun _ => NB214_227.out, fun _ => NB227_214.out, fun _ => NB215_227.out, fun _ => NB227_215.out, z_BK228, Q_GW228, Q_GE228, Q_NB214_228, Q_NB228_214, Q_NB215_228, Q_NB228_215, fun h0_ => absurd ((hoff 13 (by kernel_rfl)).symm.trans h0_) (by decide), fun h0_ => absurd ((hoff 14 (by kernel_rfl)).symm.trans h0_) (by decide), Q_X6_, Q_X7_, Q_X8_, fun _ => rfl, Q_X12_⟩
      refine steps_cons ?_ ?_
      ·rintro b a w' ⟨v217, v220, gb227, gb228, m6_, m7_, m8_, m11_, m12_, ha, Q_BK214, Q_BK215, Q_HB, Q_NB228_227, Q_NB227_228, Q_HO218, Q_HO221, Q_BK227, Q_GW227, Q_GE227, Q_NB214_227, Q_NB227_214, Q_NB215_227, Q_NB227_215, Q_BK228, Q_GW228, Q_GE228, Q_NB214_228, Q_NB228_214, Q_NB215_228, Q_NB228_215, Q_BK227_e13, Q_BK228_e14, Q_X6_, Q_X7_, Q_X8_, Q_X11_, Q_X12_⟩ hb_ hon hoff
       refine ⟨_, rfl, fun K hK => ?_⟩
       replace ha := Aside0.mk ha
       have BK214 := Aside0.mk Q_BK214
       have BK215 := Aside0.mk Q_BK215
       have HB := Aside0.mk Q_HB
       refine box_step ?hg (N := 7) ?hd (cs := #[.int .i64 0, .int .i64 0, .int .i64 0, .int .i64 0]) (t := 32) ?hr ?_; (case hd => rfl); (case hg => rfl); (case hr => exact gs_)
       intro gb228 hg w50 hbox hb
       have n0_ := bB_ BK214 hb
       have n1_ := bB_ BK215 hb
       have n2_ := Aside0.mk (below_step (by repeat (first | (with_reducible first | exact HB.out | apply ba_ | apply bn_ | apply bd_ | refine bset_ ?_ (by assumption)) | exact HB.out)) hb)
       have n3_ := Aside0.mk (hbox)
       have n4_ := gE_ HB hg
       have n5_ := gE_ HB hg
       have n6_ := nB_ BK214 hg
       have n7_ := nA_ BK214 hg
       have n8_ := nB_ BK215 hg
       have n9_ := nA_ BK215 hg
       have z_NB228_227 := fun (h0_ : up b 12 11 = true) (h1_ : up b 12 12 = true) => (show gb228 ≠ gb227 from (by rw [hg]; exact Nat.ne_of_gt (by cases h9_ : b 13 with | false => exact blk_lt (Q_BK227 (by simpa [up] using h0_) h9_) | true => exact blk_lt (Q_BK227_e13 h9_))))
       have z_NB227_228 := fun (h0_ : up b 12 11 = true) (h1_ : up b 12 12 = true) => (show gb227 ≠ gb228 from (by rw [hg]; exact Nat.ne_of_lt (by cases h9_ : b 13 with | false => exact blk_lt (Q_BK227 (by simpa [up] using h0_) h9_) | true => exact blk_lt (Q_BK227_e13 h9_))))
       have z_HO218 := fun (h0_ : b 5 = true) => (show Kd.R (Kd.int .u8) 5 w50 w.heap.size (fun _ => True) v217 y216 from by first | exact (Kd.R_below (by (with_reducible repeat first | apply kr1_ | apply kr2_ | apply kr3_); exact (Q_HO218 h0_)) hb) | exact Kd.R_mono (Kd.R_below (by (with_reducible repeat first | apply kr1_ | apply kr2_ | apply kr3_); exact (Q_HO218 h0_)) hb) (fun _ h_ => by first | trivial | exact h_ | exact h_.1))
       have z_HO221 := fun (h0_ : b 6 = true) => (show Kd.S (Kd.slice 5 (Kd.int .u8)) 29 w50 w.heap.size (fun _ => True) v220 t219 from by first | exact (Kd.S_below (by (with_reducible repeat first | apply ks1_ | apply ks2_ | apply ks3_); exact (Q_HO221 h0_)) hb) | exact Kd.S_mono (Kd.S_below (by (with_reducible repeat first | apply ks1_ | apply ks2_ | apply ks3_); exact (Q_HO221 h0_)) hb) (fun _ h_ => by first | trivial | exact h_ | exact h_.1))
       have z_BK227 := fun (h0_ : b 11 = true) (h1_ : b 13 = false) => (show w50.heap[gb227]? = some (.cells #[.slice none 0 0] 31 (0, 0)) from by first | exact (blk_below (g := gb227) (o := .cells #[.slice none 0 0] 31 (0, 0)) (by (with_reducible repeat first | apply kb1_ | apply kb2_ | apply kb3_); exact (Q_BK227 h0_ h1_)) hb))
       clear BK214
       clear BK215
       clear HB
       have BK214 := n0_
       have BK215 := n1_
       have HB := n2_
       have BK228 := n3_
       have GW228 := n4_
       have GE228 := n5_
       have NB214_228 := n6_
       have NB228_214 := n7_
       have NB215_228 := n8_
       have NB228_215 := n9_
       clear n0_ n1_ n2_ n3_ n4_ n5_ n6_ n7_ n8_ n9_
       clear hb hbox hg
       refine hK.out _ _ ⟨v217, v220, gb227, gb228, m6_, m7_, m8_, m11_, (.pointer (some ⟨gb228, 0, none⟩)), (by rw [ha.out]; exact putSel_upk 9 hb_ rfl rfl rfl), (bK_ BK214), (bK_ BK215), (by repeat (first | (with_reducible first | exact HB.out | apply ba_ | apply bn_ | apply bd_ | refine bset_ ?_ (by assumption)) | exact HB.out)), z_NB228_227, z_NB227_228, z_HO218, z_HO221, z_BK227, Q_GW227, Q_GE227, Q_NB214_227, Q_NB227_214, Q_NB215_227, Q_NB227_215, fun _ _ => (bK_ BK228), fun _ => GW228.out, fun _ => GE228.out, fun _ => NB214_228.out, fun _ => NB228_214.out, fun _ => NB215_228.out, fun _ => NB228_215.out, fun h0_ => absurd ((hoff 13 (by kernel_rfl)).symm.trans h0_) (by decide), fun h0_ => absurd ((hoff 14 (by kernel_rfl)).symm.trans h0_) (by decide), Q_X6_, Q_X7_, Q_X8_, Q_X11_, fun _ => rfl⟩
      refine steps_cons ?_ ?_
      ·rintro b a w' ⟨v217, v220, gb227, gb228, m6_, m7_, m8_, m11_, m12_, ha, Q_BK214, Q_BK215, Q_HB, Q_NB228_227, Q_NB227_228, Q_HO218, Q_HO221, Q_BK227, Q_GW227, Q_GE227, Q_NB214_227, Q_NB227_214, Q_NB215_227, Q_NB227_215, Q_BK228, Q_GW228, Q_GE228, Q_NB214_228, Q_NB228_214, Q_NB215_228, Q_NB228_215, Q_BK227_e13, Q_BK228_e14, Q_X6_, Q_X7_, Q_X8_, Q_X11_, Q_X12_⟩ hb_ hon hoff
       refine ⟨_, rfl, fun K hK => ?_⟩
       have e6 : a.tmps[6]? = some (m11_) := by rw [ha]; exact putSel_on (e := (11, 6, m11_)) 8 rfl rfl (hon 11 (by kernel_rfl)) rfl
       rw [Q_X11_ (hon 11 (by kernel_rfl))] at e6
       have e21 : a.tmps[21]? = some (m8_) := by rw [ha]; exact putSel_on (e := (8, 21, m8_)) 5 rfl rfl (hon 8 (by kernel_rfl)) rfl
       rw [Q_X8_ (hon 8 (by kernel_rfl))] at e21
       replace ha := Aside0.mk ha
       have BK214 := Aside0.mk Q_BK214
       have BK215 := Aside0.mk Q_BK215
       have HB := Aside0.mk Q_HB
       have NB228_227 := Aside0.mk (Q_NB228_227 (hon 11 (by kernel_rfl)) (hon 12 (by kernel_rfl)))
       have NB227_228 := Aside0.mk (Q_NB227_228 (hon 11 (by kernel_rfl)) (hon 12 (by kernel_rfl)))
       have HO218 := Aside0.mk (Q_HO218 (hon 5 (by kernel_rfl)))
       have HO221 := Aside0.mk (Q_HO221 (hon 6 (by kernel_rfl)))
       have BK227 := Aside0.mk (Q_BK227 (hon 11 (by kernel_rfl)) hb_)
       have GW227 := Aside0.mk (Q_GW227 (hon 11 (by kernel_rfl)))
       have GE227 := Aside0.mk (Q_GE227 (hon 11 (by kernel_rfl)))
       have NB214_227 := Aside0.mk (Q_NB214_227 (hon 11 (by kernel_rfl)))
       have NB227_214 := Aside0.mk (Q_NB227_214 (hon 11 (by kernel_rfl)))
       have NB215_227 := Aside0.mk (Q_NB215_227 (hon 11 (by kernel_rfl)))
       have NB227_215 := Aside0.mk (Q_NB227_215 (hon 11 (by kernel_rfl)))
       have BK228 := Aside0.mk (Q_BK228 (hon 12 (by kernel_rfl)) (hoff 14 (by kernel_rfl)))
       have GW228 := Aside0.mk (Q_GW228 (hon 12 (by kernel_rfl)))
       have GE228 := Aside0.mk (Q_GE228 (hon 12 (by kernel_rfl)))
       have NB214_228 := Aside0.mk (Q_NB214_228 (hon 12 (by kernel_rfl)))
       have NB228_214 := Aside0.mk (Q_NB228_214 (hon 12 (by kernel_rfl)))
       have NB215_228 := Aside0.mk (Q_NB215_228 (hon 12 (by kernel_rfl)))
       have NB228_215 := Aside0.mk (Q_NB228_215 (hon 12 (by kernel_rfl)))
       obtain ⟨Ao57, co57, eo57⟩ := Kd.S_slice HO221.out
       (first | subst eo57 | (injection eo57 with f1_ f2_ f3_; have f4_ := f1_.symm; have f5_ := f3_.symm; clear f1_ f2_ f3_; subst f4_; subst f5_))
       have hs58 : w'.cell? ⟨gb227, 0, none⟩ = some (.slice none 0 0) := (blk_cell BK227.out 0).trans rfl
       have hfs58 := blk_frozen BK227.out 0
       have hns58_0 := NB214_227.out
       have hns58_1 := NB215_227.out
       have hns58_3 := NB228_227.out
       have hms58_0 := NB227_214.out
       have hms58_1 := NB227_215.out
       have hms58_3 := NB227_228.out
       refine skip_ (w1 := ?_) (by rfl) rfl ?_ ?_
       rotate_left
       ·go_simp
        rfl
       refine hK.out _ _ ⟨v217, .slice Ao57 t219.length co57, gb227, gb228, m6_, m7_, m8_, m11_, m12_, (by rw [ha.out]; exact putSel_none (v := undef) rfl), (by exact fB_ BK214), (by exact fB_ BK215), (by repeat (first | (with_reducible first | exact HB.out | apply ba_ | apply bn_ | apply bd_ | refine bset_ ?_ (by assumption)) | exact HB.out)), fun _ _ => NB228_227.out, fun _ _ => NB227_228.out, fun _ => (by (with_reducible repeat first | apply kr1_ | apply kr2_ | apply kr3_); exact Kd.R_mono (rf1_ gb227 (Kd.R_types HO218.out BK227.out (by decide)) (fun _ hk => hk.2)) (fun _ hk => trivial)), fun _ => (by (with_reducible repeat first | apply ks1_ | apply ks2_ | apply ks3_); exact Kd.S_mono (sf1_ gb227 (Kd.S_types HO221.out BK227.out (by decide)) (fun _ hk => hk.2)) (fun _ hk => hk.1)), fun _ h1_ => absurd ((up_self b 13).symm.trans h1_) (by decide), fun _ => GW227.out, fun _ => GE227.out, fun _ => NB214_227.out, fun _ => NB227_214.out, fun _ => NB215_227.out, fun _ => NB227_215.out, fun _ _ => (by exact fB_ BK228), fun _ => GW228.out, fun _ => GE228.out, fun _ => NB214_228.out, fun _ => NB228_214.out, fun _ => NB215_228.out, fun _ => NB228_215.out, fun _ => (by exact fB_ BK227), fun h0_ => absurd ((hoff 14 (by kernel_rfl)).symm.trans h0_) (by decide), Q_X6_, Q_X7_, Q_X8_, Q_X11_, Q_X12_⟩
      refine steps_cons ?_ ?_
      ·rintro b a w' ⟨v217, v220, gb227, gb228, m6_, m7_, m8_, m11_, m12_, ha, Q_BK214, Q_BK215, Q_HB, Q_NB228_227, Q_NB227_228, Q_HO218, Q_HO221, Q_BK227, Q_GW227, Q_GE227, Q_NB214_227, Q_NB227_214, Q_NB215_227, Q_NB227_215, Q_BK228, Q_GW228, Q_GE228, Q_NB214_228, Q_NB228_214, Q_NB215_228, Q_NB228_215, Q_BK227_e13, Q_BK228_e14, Q_X6_, Q_X7_, Q_X8_, Q_X11_, Q_X12_⟩ hb_ hon hoff
       refine ⟨_, rfl, fun K hK => ?_⟩
       have e7 : a.tmps[7]? = some (m12_) := by rw [ha]; exact putSel_on (e := (12, 7, m12_)) 9 rfl rfl (hon 12 (by kernel_rfl)) rfl
       rw [Q_X12_ (hon 12 (by kernel_rfl))] at e7
       have e22 : a.tmps[22]? = some (.agg #[.int .i64 t222, .int .i64 t223, .int .i64 t224, .int .i64 t225]) := by rw [ha]; exact putSel_on (e := (9, 22, .agg #[.int .i64 t222, .int .i64 t223, .int .i64 t224, .int .i64 t225])) 6 rfl rfl (hon 9 (by kernel_rfl)) rfl
       replace ha := Aside0.mk ha
       have BK214 := Aside0.mk Q_BK214
       have BK215 := Aside0.mk Q_BK215
       have HB := Aside0.mk Q_HB
       have NB228_227 := Aside0.mk (Q_NB228_227 (hon 11 (by kernel_rfl)) (hon 12 (by kernel_rfl)))
       have NB227_228 := Aside0.mk (Q_NB227_228 (hon 11 (by kernel_rfl)) (hon 12 (by kernel_rfl)))
       have HO218 := Aside0.mk (Q_HO218 (hon 5 (by kernel_rfl)))
       have HO221 := Aside0.mk (Q_HO221 (hon 6 (by kernel_rfl)))
       have GW227 := Aside0.mk (Q_GW227 (hon 11 (by kernel_rfl)))
       have GE227 := Aside0.mk (Q_GE227 (hon 11 (by kernel_rfl)))
       have NB214_227 := Aside0.mk (Q_NB214_227 (hon 11 (by kernel_rfl)))
       have NB227_214 := Aside0.mk (Q_NB227_214 (hon 11 (by kernel_rfl)))
       have NB215_227 := Aside0.mk (Q_NB215_227 (hon 11 (by kernel_rfl)))
       have NB227_215 := Aside0.mk (Q_NB227_215 (hon 11 (by kernel_rfl)))
       have BK228 := Aside0.mk (Q_BK228 (hon 12 (by kernel_rfl)) hb_)
       have GW228 := Aside0.mk (Q_GW228 (hon 12 (by kernel_rfl)))
       have GE228 := Aside0.mk (Q_GE228 (hon 12 (by kernel_rfl)))
       have NB214_228 := Aside0.mk (Q_NB214_228 (hon 12 (by kernel_rfl)))
       have NB228_214 := Aside0.mk (Q_NB228_214 (hon 12 (by kernel_rfl)))
       have NB215_228 := Aside0.mk (Q_NB215_228 (hon 12 (by kernel_rfl)))
       have NB228_215 := Aside0.mk (Q_NB228_215 (hon 12 (by kernel_rfl)))
       have BK227 := Aside0.mk (Q_BK227_e13 (hon 13 (by kernel_rfl)))
       have hs59 : w'.cell? ⟨gb228, 0, none⟩ = some (.int .i64 0) := (blk_cell BK228.out 0).trans rfl
       have hfs59 := blk_frozen BK228.out 0
       have hns59_0 := NB214_228.out
       have hns59_1 := NB215_228.out
       have hns59_2 := NB227_228.out
       have hms59_0 := NB228_214.out
       have hms59_1 := NB228_215.out
       have hms59_2 := NB228_227.out
       have hs60 : w'.cell? ⟨gb228, 1, none⟩ = some (.int .i64 0) := (blk_cell BK228.out 1).trans rfl
       have hfs60 := blk_frozen BK228.out 1
       have hs61 : w'.cell? ⟨gb228, 2, none⟩ = some (.int .i64 0) := (blk_cell BK228.out 2).trans rfl
       have hfs61 := blk_frozen BK228.out 2
       have hs62 : w'.cell? ⟨gb228, 3, none⟩ = some (.int .i64 0) := (blk_cell BK228.out 3).trans rfl
       have hfs62 := blk_frozen BK228.out 3
       refine skip_ (w1 := ?_) (by rfl) rfl ?_ ?_
       rotate_left
       ·go_simp
        rfl
       refine hK.out _ _ ⟨v217, v220, gb227, gb228, m6_, m7_, m8_, m11_, m12_, (by rw [ha.out]; exact putSel_none (v := undef) rfl), (by exact fB_ BK214), (by exact fB_ BK215), (by repeat (first | (with_reducible first | exact HB.out | apply ba_ | apply bn_ | apply bd_ | refine bset_ ?_ (by assumption)) | exact HB.out)), fun _ _ => NB228_227.out, fun _ _ => NB227_228.out, fun _ => (by (with_reducible repeat first | apply kr1_ | apply kr2_ | apply kr3_); exact Kd.R_mono (rf4_ gb228 (Kd.R_types HO218.out BK228.out (by decide)) (fun _ hk => hk.2)) (fun _ hk => trivial)), fun _ => (by (with_reducible repeat first | apply ks1_ | apply ks2_ | apply ks3_); exact Kd.S_mono (sf4_ gb228 (Kd.S_types HO221.out BK228.out (by decide)) (fun _ hk => hk.2)) (fun _ hk => hk.1)), fun _ h1_ => absurd ((hon 13 (by kernel_rfl)).symm.trans h1_) (by decide), fun _ => GW227.out, fun _ => GE227.out, fun _ => NB214_227.out, fun _ => NB227_214.out, fun _ => NB215_227.out, fun _ => NB227_215.out, fun _ h1_ => absurd ((up_self b 14).symm.trans h1_) (by decide), fun _ => GW228.out, fun _ => GE228.out, fun _ => NB214_228.out, fun _ => NB228_214.out, fun _ => NB215_228.out, fun _ => NB228_215.out, fun _ => (by exact fB_ BK227), fun _ => (by exact fB_ BK228), Q_X6_, Q_X7_, Q_X8_, Q_X11_, Q_X12_⟩
      refine steps_cons ?_ ?_
      ·rintro b a w' ⟨v217, v220, gb227, gb228, m6_, m7_, m8_, m11_, m12_, ha, Q_BK214, Q_BK215, Q_HB, Q_NB228_227, Q_NB227_228, Q_HO218, Q_HO221, Q_BK227, Q_GW227, Q_GE227, Q_NB214_227, Q_NB227_214, Q_NB215_227, Q_NB227_215, Q_BK228, Q_GW228, Q_GE228, Q_NB214_228, Q_NB228_214, Q_NB215_228, Q_NB228_215, Q_BK227_e13, Q_BK228_e14, Q_X6_, Q_X7_, Q_X8_, Q_X11_, Q_X12_⟩ hb_ hon hoff
       refine ⟨_, rfl, fun K hK => ?_⟩
       have e23 : a.tmps[23]? = some (.bool false) := by rw [ha]; exact putSel_on (e := (10, 23, .bool false)) 7 rfl rfl (hon 10 (by kernel_rfl)) rfl
       replace ha := Aside0.mk ha
       have BK214 := Aside0.mk Q_BK214
       have BK215 := Aside0.mk Q_BK215
       have HB := Aside0.mk Q_HB
       have NB228_227 := Aside0.mk (Q_NB228_227 (hon 11 (by kernel_rfl)) (hon 12 (by kernel_rfl)))
       have NB227_228 := Aside0.mk (Q_NB227_228 (hon 11 (by kernel_rfl)) (hon 12 (by kernel_rfl)))
       have HO218 := Aside0.mk (Q_HO218 (hon 5 (by kernel_rfl)))
       have HO221 := Aside0.mk (Q_HO221 (hon 6 (by kernel_rfl)))
       have GW227 := Aside0.mk (Q_GW227 (hon 11 (by kernel_rfl)))
       have GE227 := Aside0.mk (Q_GE227 (hon 11 (by kernel_rfl)))
       have NB214_227 := Aside0.mk (Q_NB214_227 (hon 11 (by kernel_rfl)))
       have NB227_214 := Aside0.mk (Q_NB227_214 (hon 11 (by kernel_rfl)))
       have NB215_227 := Aside0.mk (Q_NB215_227 (hon 11 (by kernel_rfl)))
       have NB227_215 := Aside0.mk (Q_NB227_215 (hon 11 (by kernel_rfl)))
       have GW228 := Aside0.mk (Q_GW228 (hon 12 (by kernel_rfl)))
       have GE228 := Aside0.mk (Q_GE228 (hon 12 (by kernel_rfl)))
       have NB214_228 := Aside0.mk (Q_NB214_228 (hon 12 (by kernel_rfl)))
       have NB228_214 := Aside0.mk (Q_NB228_214 (hon 12 (by kernel_rfl)))
       have NB215_228 := Aside0.mk (Q_NB215_228 (hon 12 (by kernel_rfl)))
       have NB228_215 := Aside0.mk (Q_NB228_215 (hon 12 (by kernel_rfl)))
       have BK227 := Aside0.mk (Q_BK227_e13 (hon 13 (by kernel_rfl)))
       have BK228 := Aside0.mk (Q_BK228_e14 (hon 14 (by kernel_rfl)))
       refine value_ (w1 := w') (v := .bool false) (by rfl) rfl ?_ ?_
       ·go_simp
        (try simp only [i64_w])
        try rfl
       refine hK.out _ _ ⟨v217, v220, gb227, gb228, m6_, m7_, m8_, m11_, m12_, (by rw [ha.out]; exact putSel_upk 10 hb_ rfl rfl rfl), Q_BK214, Q_BK215, Q_HB, Q_NB228_227, Q_NB227_228, Q_HO218, Q_HO221, fun _ h1_ => absurd ((hon 13 (by kernel_rfl)).symm.trans h1_) (by decide), Q_GW227, Q_GE227, Q_NB214_227, Q_NB227_214, Q_NB215_227, Q_NB227_215, fun _ h1_ => absurd ((hon 14 (by kernel_rfl)).symm.trans h1_) (by decide), Q_GW228, Q_GE228, Q_NB214_228, Q_NB228_214, Q_NB215_228, Q_NB228_215, Q_BK227_e13, Q_BK228_e14, Q_X6_, Q_X7_, Q_X8_, Q_X11_, Q_X12_⟩
      exact steps_nil
     rintro b a w62 hall ⟨v217, v220, gb227, gb228, m6_, m7_, m8_, m11_, m12_, ha, Q_BK214, Q_BK215, Q_HB, Q_NB228_227, Q_NB227_228, Q_HO218, Q_HO221, Q_BK227, Q_GW227, Q_GE227, Q_NB214_227, Q_NB227_214, Q_NB215_227, Q_NB227_215, Q_BK228, Q_GW228, Q_GE228, Q_NB214_228, Q_NB228_214, Q_NB215_228, Q_NB228_215, Q_BK227_e13, Q_BK228_e14, Q_X6_, Q_X7_, Q_X8_, Q_X11_, Q_X12_⟩
     clear BK214 BK215 HB
     have hb1_ := hall 1 (by kernel_rfl)
     have hb3_ := hall 3 (by kernel_rfl)
     have hb5_ := hall 5 (by kernel_rfl)
     have hb6_ := hall 6 (by kernel_rfl)
     have hb7_ := hall 7 (by kernel_rfl)
     have hb8_ := hall 8 (by kernel_rfl)
     have hb9_ := hall 9 (by kernel_rfl)
     have hb10_ := hall 10 (by kernel_rfl)
     have hb11_ := hall 11 (by kernel_rfl)
     have hb12_ := hall 12 (by kernel_rfl)
     have hb13_ := hall 13 (by kernel_rfl)
     have hb14_ := hall 14 (by kernel_rfl)
     have hb15_ := hall 15 (by kernel_rfl)
     subst ha
     obtain rfl := Q_X6_ hb6_
     obtain rfl := Q_X7_ hb7_
     obtain rfl := Q_X8_ hb8_
     obtain rfl := Q_X11_ hb11_
     obtain rfl := Q_X12_ hb12_
     simp only [putSel, hb1_, hb3_, hb5_, hb6_, hb7_, hb8_, hb9_, hb10_, hb11_, hb12_, hb13_, hb14_, hb15_, if_true, Act.put, List.setIfInBounds_toArray, List.set_cons_zero, List.set_cons_succ]
     have BK214 := Aside0.mk Q_BK214
     clear Q_BK214
     have BK215 := Aside0.mk Q_BK215
     clear Q_BK215
     have HB := Aside0.mk Q_HB
     clear Q_HB
     have NB228_227 := Aside0.mk (Q_NB228_227 hb11_ hb12_)
     clear Q_NB228_227
     have NB227_228 := Aside0.mk (Q_NB227_228 hb11_ hb12_)
     clear Q_NB227_228
     have HO218 := Aside0.mk (Q_HO218 hb5_)
     clear Q_HO218
     have HO221 := Aside0.mk (Q_HO221 hb6_)
     clear Q_HO221
     clear Q_BK227
     have GW227 := Aside0.mk (Q_GW227 hb11_)
     clear Q_GW227
     have GE227 := Aside0.mk (Q_GE227 hb11_)
     clear Q_GE227
     have NB214_227 := Aside0.mk (Q_NB214_227 hb11_)
     clear Q_NB214_227
     have NB227_214 := Aside0.mk (Q_NB227_214 hb11_)
     clear Q_NB227_214
     have NB215_227 := Aside0.mk (Q_NB215_227 hb11_)
     clear Q_NB215_227
     have NB227_215 := Aside0.mk (Q_NB227_215 hb11_)
     clear Q_NB227_215
     clear Q_BK228
     have GW228 := Aside0.mk (Q_GW228 hb12_)
     clear Q_GW228
     have GE228 := Aside0.mk (Q_GE228 hb12_)
     clear Q_GE228
     have NB214_228 := Aside0.mk (Q_NB214_228 hb12_)
     clear Q_NB214_228
     have NB228_214 := Aside0.mk (Q_NB228_214 hb12_)
     clear Q_NB228_214
     have NB215_228 := Aside0.mk (Q_NB215_228 hb12_)
     clear Q_NB215_228
     have NB228_215 := Aside0.mk (Q_NB228_215 hb12_)
     clear Q_NB228_215
     have BK227 := Aside0.mk (Q_BK227_e13 hb13_)
     clear Q_BK227_e13
     have BK228 := Aside0.mk (Q_BK228_e14 hb14_)
     clear Q_BK228_e14
     clear hall hb1_ hb3_ hb5_ hb6_ hb7_ hb8_ hb9_ hb10_ hb11_ hb12_ hb13_ hb14_ hb15_
     have hnb63 := NB215_214.out
     have hnc63 := NB214_215.out
     have hnb64 := NB215_227.out
     have hnc64 := NB227_215.out
     have hnb65 := NB215_228.out
     have hnc65 := NB228_215.out
     obtain ⟨hcz66_0, hcz66_1, hcz66_2, hcz66_3, hcz66_4, hcz66_5, hcz66_6, hfz66_0, hfz66_1, hfz66_2, hfz66_3, hfz66_4, hfz66_5, hfz66_6⟩ := zc7_ BK215
     try go_wp2
     refine bodyPost_ret (results_ct rfl _ _ gb215 34 #[.slice none 0 0, .int .i64 0, .int .i64 0, .int .i64 0, .int .i64 0, .int .i64 0, .int .i64 0] (0, 0) _ rfl (by exact fB_ BK215) Try.underlying34 rfl (by kernel_rfl)) rfl ?_
     exact ⟨_, er_, by first | exact Kd.S_nil _ _ _ _ _ | exact Kd.N_nil _ _ _ _ _ | exact Kd.V_nil _ _ _ _ _ | exact Kd.Q_nil _ _ _ _ _ | exact Kd.R_nil _ _ _ _ _, by repeat (first | (with_reducible first | exact HB.out | apply below_alloc | apply pw_below_drewN | apply below_drew1 | refine below_set ?_ GE214.out | refine below_set ?_ GE215.out | refine below_set ?_ GE227.out | refine below_set ?_ GE228.out) | exact HB.out)⟩
   ·rw [if_neg c9] at H
    exact absurd H (by simp)
  ·rw [if_neg c8] at H
   exact absurd H (by simp)
end Go.Proofs.Ytmkcbbbknbahgaa.P
namespace Go.Proofs.Ytmkcbbbknbahgaa.P
open Go.RowKit Go.Proofs.YtmkcbbbknbahgaaW.PrintWords Go.Proofs.YtmkcbbbknbahgaaW.PrintLast Go.Proofs.YtmkcbbbknbahgaaW.PrintMore
attribute [local go_sem] max2_int min2_int max_two min_two max_three min_three max_four min_four   -- for this text's walks alone
set_option linter.unusedVariables false
set_option linter.unusedSimpArgs false

def spec_l6Put.f (k : Nat) (l0_0 : List (List Int)) (a0_1 : Int) (a0_2 : Int) (a0_3 : Int) (a0_4 : Int) (a0_5 : Int) (a0_6 : Int) (l1 : List Int) : Option ((List (List Int)) × Int × Int × Int × Int × Int × Int × Bool) := if (wrap64 ((l1.length : Int) - (wrap64 (a0_6 - a0_5)))) > 0 then ((spec_l6Widen.f k l0_0 a0_1 a0_2 a0_3 a0_4 a0_5 a0_6 (wrap64 ((l1.length : Int) - (wrap64 (a0_6 - a0_5))))).bind fun bt242 => (if bt242.2.2.2.2.2.2.2 = true then ((spec_l2Write.f k bt242.1 bt242.2.1 bt242.2.2.1 bt242.2.2.2.1 bt242.2.2.2.2.1 bt242.2.2.2.2.2.1 l1).bind fun t253 => (some (t253, bt242.2.1, bt242.2.2.1, bt242.2.2.2.1, bt242.2.2.2.2.1, wrap64 (bt242.2.2.2.2.2.1 + (l1.length : Int)), bt242.2.2.2.2.2.2.1, true))) else (some (([] : List (List Int)), 0, 0, 0, 0, 0, 0, false)))) else ((spec_l2Write.f k l0_0 a0_1 a0_2 a0_3 a0_4 a0_5 l1).bind fun t256 => (some (t256, a0_1, a0_2, a0_3, a0_4, wrap64 (a0_5 + (l1.length : Int)), a0_6, true)))

set_option maxHeartbeats 8000000 in
set_option maxRecDepth 100000 in
theorem spec_l6Put.calls (k : Nat) (A0_0 : Option Addr) (c0_0 : Nat) (l0_0 : List (List Int)) (a0_1 : Int) (a0_2 : Int) (a0_3 : Int) (a0_4 : Int) (a0_5 : Int) (a0_6 : Int) (A1 : Option Addr) (c1 : Nat) (l1 : List Int) (r1 : List (List Int)) (r2 : Int) (r3 : Int) (r4 : Int) (r5 : Int) (r6 : Int) (r7 : Int) (r8 : Bool) (w : World) (hr0_0 : Kd.C (Kd.slice 5 (Kd.int .u8)) w A0_0 l0_0.length l0_0) (hc0_0 : l0_0.length ≤ c0_0) (hr1 : Kd.C (Kd.int .u8) w A1 l1.length l1) (hc1 : l1.length ≤ c1) (h : spec_l6Put.f k l0_0 a0_1 a0_2 a0_3 a0_4 a0_5 a0_6 l1 = some (r1, r2, r3, r4, r5, r6, r7, r8)) :
  Calls Try.prog 84 #[.agg #[.slice A0_0 l0_0.length c0_0, .int .i64 a0_1, .int .i64 a0_2, .int .i64 a0_3, .int .i64 a0_4, .int .i64 a0_5, .int .i64 a0_6], .slice A1 l1.length c1] w fun e w' => ∃ v0_ : Value, e = .returned (.tuple #[.agg #[v0_, .int .i64 r2, .int .i64 r3, .int .i64 r4, .int .i64 r5, .int .i64 r6, .int .i64 r7], .bool r8]) ∧ Kd.S (Kd.slice 5 (Kd.int .u8)) 29 w' w.heap.size (fun _ => True) v0_ r1 ∧ Below w.heap.size w w' := by
 have hu34 := Try.underlying34
 have hu31 := Try.underlying31
 have hu32 := Try.underlying32
 have HR0_0 := Aside0.mk hr0_0
 have HC0_0 := Aside0.mk hc0_0
 clear hr0_0 hc0_0
 have HR1 := Aside0.mk hr1
 have HC1 := Aside0.mk hc1
 clear hr1 hc1
 have HB := Aside0.mk (Below.refl w.heap.size w)
 have H : (if (wrap64 ((l1.length : Int) - (wrap64 (a0_6 - a0_5)))) > 0 then ((spec_l6Widen.f k l0_0 a0_1 a0_2 a0_3 a0_4 a0_5 a0_6 (wrap64 ((l1.length : Int) - (wrap64 (a0_6 - a0_5))))).bind fun bt242 => (if bt242.2.2.2.2.2.2.2 = true then ((spec_l2Write.f k bt242.1 bt242.2.1 bt242.2.2.1 bt242.2.2.2.1 bt242.2.2.2.2.1 bt242.2.2.2.2.2.1 l1).bind fun t253 => (some (t253, bt242.2.1, bt242.2.2.1, bt242.2.2.2.1, bt242.2.2.2.2.1, wrap64 (bt242.2.2.2.2.2.1 + (l1.length : Int)), bt242.2.2.2.2.2.2.1, true))) else (some (([] : List (List Int)), 0, 0, 0, 0, 0, 0, false)))) else ((spec_l2Write.f k l0_0 a0_1 a0_2 a0_3 a0_4 a0_5 l1).bind fun t256 => (some (t256, a0_1, a0_2, a0_3, a0_4, wrap64 (a0_5 + (l1.length : Int)), a0_6, true)))) = some (r1, r2, r3, r4, r5, r6, r7, r8) := h
 clear h
 by_cases c3 : (wrap64 ((l1.length : Int) - (wrap64 (a0_6 - a0_5)))) > 0
 ·rw [if_pos c3] at H
  have c3b0 : decide (0 < (wrap64 ((l1.length : Int) - (wrap64 (a0_6 - a0_5))))) = true := decide_eq_true c3
  clear c3
  replace H := Option.bind_eq_some_iff.mp H
  obtain ⟨⟨t242, t245, t246, t247, t248, t249, t250, t251⟩, A40, H⟩ := H
  replace H : (if t251 = true then ((spec_l2Write.f k t242 t245 t246 t247 t248 t249 l1).bind fun t253 => (some (t253, t245, t246, t247, t248, wrap64 (t249 + (l1.length : Int)), t250, true))) else (some (([] : List (List Int)), 0, 0, 0, 0, 0, 0, false))) = some (r1, r2, r3, r4, r5, r6, r7, r8) := H
  have A4 := Aside0.mk A40
  clear A40
  by_cases c5 : t251 = true
  ·subst c5
   rw [if_pos rfl] at H
   replace H := Option.bind_eq_some_iff.mp H
   obtain ⟨t253, A60, H⟩ := H
   replace H : (some (t253, t245, t246, t247, t248, wrap64 (t249 + (l1.length : Int)), t250, true)) = some (r1, r2, r3, r4, r5, r6, r7, r8) := H
   have A6 := Aside0.mk A60
   clear A60
   simp only [Option.some.injEq, Prod.mk.injEq] at H
   obtain ⟨rfl, rfl, rfl, rfl, rfl, rfl, rfl, rfl⟩ := H
   go_enter Try.func84, Try.ntmps84
   go_wp2_with (first | ((with_reducible refine gate_dst (N := 2) rfl ?_); refine box_event ?hg (N := 2) ?hd (cs := #[.slice A0_0 l0_0.length c0_0, .int .i64 a0_1, .int .i64 a0_2, .int .i64 a0_3, .int .i64 a0_4, .int .i64 a0_5, .int .i64 a0_6]) (t := 34) ?hr ?_; (case hd => rfl); (case hg => rfl); (case hr => exact gs_); intro gb239 hg w7 hbox hb; have BK239 := Aside0.mk (hbox); have GW239 := gE_ HB hg; have GE239 := gE_ HB hg; replace HB := Aside0.mk (below_step (by repeat (first | (with_reducible first | exact HB.out | apply ba_ | apply bn_ | apply bd_) | exact HB.out)) hb); clear hb hbox hg) | ((with_reducible refine gate_dst (N := 4) rfl ?_); refine box_event ?hg (N := 4) ?hd (cs := #[.slice none 0 0, .int .i64 0, .int .i64 0, .int .i64 0, .int .i64 0, .int .i64 0, .int .i64 0]) (t := 34) ?hr ?_; (case hd => rfl); (case hg => rfl); (case hr => exact gs_); intro gb240 hg w8 hbox hb; have BK240 := Aside0.mk (hbox); have GW240 := gE_ HB hg; have GE240 := gE_ HB hg; replace HB := Aside0.mk (below_step (by repeat (first | (with_reducible first | exact HB.out | apply ba_ | apply bn_ | apply bd_ | refine bset_ ?_ (by assumption)) | exact HB.out)) hb); have NB239_240 := nB_ BK239 hg; have NB240_239 := nA_ BK239 hg; replace BK239 := bB_ BK239 hb; clear hb hbox hg; have hnb9 := NB239_240.out; have hnc9 := NB240_239.out; obtain ⟨hcz10_0, hcz10_1, hcz10_2, hcz10_3, hcz10_4, hcz10_5, hcz10_6, hfz10_0, hfz10_1, hfz10_2, hfz10_3, hfz10_4, hfz10_5, hfz10_6⟩ := zc7_ BK239) | ((with_reducible refine gate_dst (N := 6) rfl ?_); refine box_event ?hg (N := 6) ?hd (cs := #[.slice none 0 0, .int .i64 0, .int .i64 0, .int .i64 0, .int .i64 0, .int .i64 0, .int .i64 0]) (t := 34) ?hr ?_; (case hd => rfl); (case hg => rfl); (case hr => exact gs_); intro gb241 hg w11 hbox hb; have BK241 := Aside0.mk (hbox); have GW241 := gE_ HB hg; have GE241 := gE_ HB hg; replace HB := Aside0.mk (below_step (by repeat (first | (with_reducible first | exact HB.out | apply ba_ | apply bn_ | apply bd_ | refine bset_ ?_ (by assumption)) | exact HB.out)) hb); have NB239_241 := nB_ BK239 hg; have NB241_239 := nA_ BK239 hg; replace BK239 := bB_ BK239 hb; have NB240_241 := nB_ BK240 hg; have NB241_240 := nA_ BK240 hg; replace BK240 := bB_ BK240 hb; clear hb hbox hg; have hnb12 := NB241_239.out; have hnc12 := NB239_241.out; have hnb13 := NB241_240.out; have hnc13 := NB240_241.out; obtain ⟨hcz14_0, hcz14_1, hcz14_2, hcz14_3, hcz14_4, hcz14_5, hcz14_6, hfz14_0, hfz14_1, hfz14_2, hfz14_3, hfz14_4, hfz14_5, hfz14_6⟩ := zc7_ BK241; obtain ⟨hcz15_0, hcz15_1, hcz15_2, hcz15_3, hcz15_4, hcz15_5, hcz15_6, hfz15_0, hfz15_1, hfz15_2, hfz15_3, hfz15_4, hfz15_5, hfz15_6⟩ := zc7_ BK239) | ((with_reducible refine gate_callee (f := 145) rfl ?_); refine goesL_ (some 24) rfl rfl Try.func145 (by kernel_rfl) rfl #[.agg #[.slice A0_0 l0_0.length c0_0, .int .i64 a0_1, .int .i64 a0_2, .int .i64 a0_3, .int .i64 a0_4, .int .i64 a0_5, .int .i64 a0_6], .int .i64 (wrap64 ((l1.length : Int) - (wrap64 (a0_6 - a0_5))))] rfl ar_ ?_; (with_reducible refine (spec_l6Widen.calls k _ _ l0_0 a0_1 a0_2 a0_3 a0_4 a0_5 a0_6 (wrap64 ((l1.length : Int) - (wrap64 (a0_6 - a0_5)))) t242 t245 t246 t247 t248 t249 t250 true _ ?side1 ?side2 A4.out).mono ?_); (case side1 => exact Kd.C_below HR0_0.out (by repeat (first | (with_reducible first | exact HB.out | apply ba_ | apply bn_ | apply bd_ | refine bset_ ?_ (by assumption)) | exact HB.out))); (case side2 => exact HC0_0.out); rintro e w16 ⟨v243, rfl, ho0, hb⟩; refine ⟨_, rfl, ?_⟩; have HO244 := Aside0.mk (sL_ ho0 HB); replace BK239 := Aside0.mk (blk_below (g := gb239) (o := .cells #[.slice A0_0 l0_0.length c0_0, .int .i64 a0_1, .int .i64 a0_2, .int .i64 a0_3, .int .i64 a0_4, .int .i64 a0_5, .int .i64 a0_6] 34 (0, 0)) (by exact fB_ BK239) hb); replace BK240 := Aside0.mk (blk_below (g := gb240) (o := .cells #[.slice none 0 0, .int .i64 0, .int .i64 0, .int .i64 0, .int .i64 0, .int .i64 0, .int .i64 0] 34 (0, 0)) (by exact fB_ BK240) hb); replace BK241 := Aside0.mk (blk_below (g := gb241) (o := .cells #[.slice A0_0 l0_0.length c0_0, .int .i64 a0_1, .int .i64 a0_2, .int .i64 a0_3, .int .i64 a0_4, .int .i64 a0_5, .int .i64 a0_6] 34 (0, 0)) (by exact fB_ BK241) hb); replace HB := Aside0.mk (below_step (by repeat (first | (with_reducible first | exact HB.out | apply ba_ | apply bn_ | apply bd_ | refine bset_ ?_ (by assumption)) | exact HB.out)) hb); (try clear hb); (try clear hb2); (try clear hk); (try clear hi); (try clear ho0)) | ((with_reducible refine gate_dst (N := 8) rfl ?_); refine box_event ?hg (N := 8) ?hd (cs := #[.slice none 0 0, .int .i64 0, .int .i64 0, .int .i64 0, .int .i64 0, .int .i64 0, .int .i64 0]) (t := 34) ?hr ?_; (case hd => rfl); (case hg => rfl); (case hr => exact gs_); intro gb252 hg w17 hbox hb; replace HO244 := Aside0.mk (Kd.S_below (sK_ HO244) hb); have BK252 := Aside0.mk (hbox); have GW252 := gE_ HB hg; have GE252 := gE_ HB hg; replace HB := Aside0.mk (below_step (by repeat (first | (with_reducible first | exact HB.out | apply ba_ | apply bn_ | apply bd_ | refine bset_ ?_ (by assumption)) | exact HB.out)) hb); have NB239_252 := nB_ BK239 hg; have NB252_239 := nA_ BK239 hg; replace BK239 := bB_ BK239 hb; have NB240_252 := nB_ BK240 hg; have NB252_240 := nA_ BK240 hg; replace BK240 := bB_ BK240 hb; have NB241_252 := nB_ BK241 hg; have NB252_241 := nA_ BK241 hg; replace BK241 := bB_ BK241 hb; clear hb hbox hg; obtain ⟨Ao18, co18, eo18⟩ := Kd.S_slice HO244.out; subst eo18; have hnb19 := NB252_239.out; have hnc19 := NB239_252.out; have hnb20 := NB252_240.out; have hnc20 := NB240_252.out; have hnb21 := NB252_241.out; have hnc21 := NB241_252.out; obtain ⟨hcz22_0, hcz22_1, hcz22_2, hcz22_3, hcz22_4, hcz22_5, hcz22_6, hfz22_0, hfz22_1, hfz22_2, hfz22_3, hfz22_4, hfz22_5, hfz22_6⟩ := zc7_ BK252; obtain ⟨hcz23_0, hcz23_1, hcz23_2, hcz23_3, hcz23_4, hcz23_5, hcz23_6, hfz23_0, hfz23_1, hfz23_2, hfz23_3, hfz23_4, hfz23_5, hfz23_6⟩ := zc7_ BK241) | ((with_reducible refine gate_callee (f := 106) rfl ?_); refine goesL_ (some 38) rfl rfl Try.func106 (by kernel_rfl) rfl #[.agg #[.slice Ao18 t242.length co18], .agg #[.int .i64 t245, .int .i64 t246, .int .i64 t247, .int .i64 t248], .int .i64 t249, .slice A1 l1.length c1] rfl ar_ ?_; (with_reducible refine (spec_l2Write.calls k _ _ t242 t245 t246 t247 t248 t249 _ _ l1 t253 _ ?side1 ?side2 ?side3 ?side4 A6.out).mono ?_); (case side1 => refine (Kd.S_reads' (e := 29) (base := w.heap.size) (ok := fun k_ => True) (n := t242.length) (c := co18) ?_).2.2; exact (by (with_reducible repeat first | apply ks1_ | apply ks2_ | apply ks3_); exact (Kd.S_mono (Kd.S_mono (sf7_ gb241 (sf7_ gb252 (Kd.S_types (Kd.S_types HO244.out BK252.out (by decide)) BK241.out (by decide)) (fun _ hk => hk.1.2)) (fun _ hk => hk.2)) (fun _ h_ => h_.1)) (fun _ h_ => h_.1)))); (case side2 => exact (Kd.S_reads' HO244.out).2.1); (case side3 => exact Kd.C_below HR1.out (by repeat (first | (with_reducible first | exact HB.out | apply ba_ | apply bn_ | apply bd_ | refine bset_ ?_ (by assumption)) | exact HB.out))); (case side4 => exact HC1.out); rintro e w24 ⟨v254, rfl, ho0, hb⟩; refine ⟨_, rfl, ?_⟩; have HO255 := Aside0.mk (sL_ (Kd.S_new' ho0 (Kd.S_lt (by (with_reducible repeat first | apply ks1_ | apply ks2_ | apply ks3_); exact (Kd.S_mono (Kd.S_mono (sf7_ gb241 (sf7_ gb252 (Kd.S_types (Kd.S_types HO244.out BK252.out (by decide)) BK241.out (by decide)) (fun _ hk => hk.1.2)) (fun _ hk => hk.2)) (fun _ h_ => h_.1)) (fun _ h_ => h_.1))))) HB); replace HO244 := Aside0.mk (Kd.S_elder' (by (with_reducible repeat first | apply ks1_ | apply ks2_ | apply ks3_); exact (Kd.S_mono (Kd.S_mono (sf7_ gb241 (sf7_ gb252 (Kd.S_types (Kd.S_types HO244.out BK252.out (by decide)) BK241.out (by decide)) (fun _ hk => hk.1.2)) (fun _ hk => hk.2)) (fun _ h_ => h_.1)) (fun _ h_ => h_.1))) (Kd.S_base ho0) hb); replace BK239 := Aside0.mk (blk_below (g := gb239) (o := .cells #[.slice A0_0 l0_0.length c0_0, .int .i64 a0_1, .int .i64 a0_2, .int .i64 a0_3, .int .i64 a0_4, .int .i64 a0_5, .int .i64 a0_6] 34 (0, 0)) (by exact fB_ BK239) hb); replace BK240 := Aside0.mk (blk_below (g := gb240) (o := .cells #[.slice none 0 0, .int .i64 0, .int .i64 0, .int .i64 0, .int .i64 0, .int .i64 0, .int .i64 0] 34 (0, 0)) (by exact fB_ BK240) hb); replace BK241 := Aside0.mk (blk_below (g := gb241) (o := .cells #[.slice Ao18 t242.length co18, .int .i64 t245, .int .i64 t246, .int .i64 t247, .int .i64 t248, .int .i64 t249, .int .i64 t250] 34 (0, 0)) (by exact fB_ BK241) hb); replace BK252 := Aside0.mk (blk_below (g := gb252) (o := .cells #[.slice Ao18 t242.length co18, .int .i64 t245, .int .i64 t246, .int .i64 t247, .int .i64 t248, .int .i64 t249, .int .i64 t250] 34 (0, 0)) (by exact fB_ BK252) hb); replace HB := Aside0.mk (below_step (by repeat (first | (with_reducible first | exact HB.out | apply ba_ | apply bn_ | apply bd_ | refine bset_ ?_ (by assumption)) | exact HB.out)) hb); (try clear hb); (try clear hb2); (try clear hk); (try clear hi); (try clear ho0); obtain ⟨Ao25, co25, eo25⟩ := Kd.S_slice HO255.out; subst eo25; obtain ⟨hcz26_0, hcz26_1, hcz26_2, hcz26_3, hcz26_4, hcz26_5, hcz26_6, hfz26_0, hfz26_1, hfz26_2, hfz26_3, hfz26_4, hfz26_5, hfz26_6⟩ := zc7_ BK241; obtain ⟨hcz27_0, hcz27_1, hcz27_2, hcz27_3, hcz27_4, hcz27_5, hcz27_6, hfz27_0, hfz27_1, hfz27_2, hfz27_3, hfz27_4, hfz27_5, hfz27_6⟩ := zc7_ BK240))
   refine bodyPost_ret (results_ct rfl _ _ gb240 34 #[.slice Ao25 t253.length co25, .int .i64 t245, .int .i64 t246, .int .i64 t247, .int .i64 t248, .int .i64 (wrap64 (t249 + (l1.length : Int))), .int .i64 t250] (0, 0) _ rfl (by exact fB_ BK240) Try.underlying34 rfl (by kernel_rfl)) rfl ?_
   exact ⟨_, er_, by (with_reducible repeat first | apply ks1_ | apply ks2_ | apply ks3_); exact Kd.S_mono (sf7_ gb240 (Kd.S_far (p := ⟨gb241, 5, none⟩) (sf1_ gb241 (Kd.S_types (Kd.S_types HO255.out BK241.out (by decide)) BK240.out (by decide)) (fun _ hk => hk.1.2)) (fun _ hk => hk.1.2) (.int .i64 (wrap64 (t249 + (l1.length : Int))))) (fun _ hk => hk.2)) (fun _ hk => trivial), by repeat (first | (with_reducible first | exact HB.out | apply below_alloc | apply pw_below_drewN | apply below_drew1 | refine below_set ?_ GE239.out | refine below_set ?_ GE240.out | refine below_set ?_ GE241.out | refine below_set ?_ GE252.out) | exact HB.out)⟩
  ·replace c5 := Bool.eq_false_iff.mpr c5
   subst c5
   rw [if_neg (show ¬ (false = true) by decide)] at H
   simp only [Option.some.injEq, Prod.mk.injEq] at H
   obtain ⟨rfl, rfl, rfl, rfl, rfl, rfl, rfl, rfl⟩ := H
   go_enter Try.func84, Try.ntmps84
   go_wp2_with (first | ((with_reducible refine gate_dst (N := 2) rfl ?_); refine box_event ?hg (N := 2) ?hd (cs := #[.slice A0_0 l0_0.length c0_0, .int .i64 a0_1, .int .i64 a0_2, .int .i64 a0_3, .int .i64 a0_4, .int .i64 a0_5, .int .i64 a0_6]) (t := 34) ?hr ?_; (case hd => rfl); (case hg => rfl); (case hr => exact gs_); intro gb239 hg w28 hbox hb; have BK239 := Aside0.mk (hbox); have GW239 := gE_ HB hg; have GE239 := gE_ HB hg; replace HB := Aside0.mk (below_step (by repeat (first | (with_reducible first | exact HB.out | apply ba_ | apply bn_ | apply bd_) | exact HB.out)) hb); clear hb hbox hg) | ((with_reducible refine gate_dst (N := 4) rfl ?_); refine box_event ?hg (N := 4) ?hd (cs := #[.slice none 0 0, .int .i64 0, .int .i64 0, .int .i64 0, .int .i64 0, .int .i64 0, .int .i64 0]) (t := 34) ?hr ?_; (case hd => rfl); (case hg => rfl); (case hr => exact gs_); intro gb240 hg w29 hbox hb; have BK240 := Aside0.mk (hbox); have GW240 := gE_ HB hg; have GE240 := gE_ HB hg; replace HB := Aside0.mk (below_step (by repeat (first | (with_reducible first | exact HB.out | apply ba_ | apply bn_ | apply bd_ | refine bset_ ?_ (by assumption)) | exact HB.out)) hb); have NB239_240 := nB_ BK239 hg; have NB240_239 := nA_ BK239 hg; replace BK239 := bB_ BK239 hb; clear hb hbox hg; have hnb30 := NB239_240.out; have hnc30 := NB240_239.out; obtain ⟨hcz31_0, hcz31_1, hcz31_2, hcz31_3, hcz31_4, hcz31_5, hcz31_6, hfz31_0, hfz31_1, hfz31_2, hfz31_3, hfz31_4, hfz31_5, hfz31_6⟩ := zc7_ BK239) | ((with_reducible refine gate_dst (N := 6) rfl ?_); refine box_event ?hg (N := 6) ?hd (cs := #[.slice none 0 0, .int .i64 0, .int .i64 0, .int .i64 0, .int .i64 0, .int .i64 0, .int .i64 0]) (t := 34) ?hr ?_; (case hd => rfl); (case hg => rfl); (case hr => exact gs_); intro gb241 hg w32 hbox hb; have BK241 := Aside0.mk (hbox); have GW241 := gE_ HB hg; have GE241 := gE_ HB hg; replace HB := Aside0.mk (below_step (by repeat (first | (with_reducible first | exact HB.out | apply ba_ | apply bn_ | apply bd_ | refine bset_ ?_ (by assumption)) | exact HB.out)) hb); have NB239_241 := nB_ BK239 hg; have NB241_239 := nA_ BK239 hg; replace BK239 := bB_ BK239 hb; have NB240_241 := nB_ BK240 hg; have NB241_240 := nA_ BK240 hg; replace BK240 := bB_ BK240 hb; clear hb hbox hg; have hnb33 := NB241_239.out; have hnc33 := NB239_241.out; have hnb34 := NB241_240.out; have hnc34 := NB240_241.out; obtain ⟨hcz35_0, hcz35_1, hcz35_2, hcz35_3, hcz35_4, hcz35_5, hcz35_6, hfz35_0, hfz35_1, hfz35_2, hfz35_3, hfz35_4, hfz35_5, hfz35_6⟩ := zc7_ BK241; obtain ⟨hcz36_0, hcz36_1, hcz36_2, hcz36_3, hcz36_4, hcz36_5, hcz36_6, hfz36_0, hfz36_1, hfz36_2, hfz36_3, hfz36_4, hfz36_5, hfz36_6⟩ := zc7_ BK239) | ((with_reducible refine gate_callee (f := 145) rfl ?_); refine goesL_ (some 24) rfl rfl Try.func145 (by kernel_rfl) rfl #[.agg #[.slice A0_0 l0_0.length c0_0, .int .i64 a0_1, .int .i64 a0_2, .int .i64 a0_3, .int .i64 a0_4, .int .i64 a0_5, .int .i64 a0_6], .int .i64 (wrap64 ((l1.length : Int) - (wrap64 (a0_6 - a0_5))))] rfl ar_ ?_; (with_reducible refine (spec_l6Widen.calls k _ _ l0_0 a0_1 a0_2 a0_3 a0_4 a0_5 a0_6 (wrap64 ((l1.length : Int) - (wrap64 (a0_6 - a0_5)))) t242 t245 t246 t247 t248 t249 t250 false _ ?side1 ?side2 A4.out).mono ?_); (case side1 => exact Kd.C_below HR0_0.out (by repeat (first | (with_reducible first | exact HB.out | apply ba_ | apply bn_ | apply bd_ | refine bset_ ?_ (by assumption)) | exact HB.out))); (case side2 => exact HC0_0.out); rintro e w37 ⟨v243, rfl, ho0, hb⟩; refine ⟨_, rfl, ?_⟩; have HO244 := Aside0.mk (sL_ ho0 HB); replace BK239 := Aside0.mk (blk_below (g := gb239) (o := .cells #[.slice A0_0 l0_0.length c0_0, .int .i64 a0_1, .int .i64 a0_2, .int .i64 a0_3, .int .i64 a0_4, .int .i64 a0_5, .int .i64 a0_6] 34 (0, 0)) (by exact fB_ BK239) hb); replace BK240 := Aside0.mk (blk_below (g := gb240) (o := .cells #[.slice none 0 0, .int .i64 0, .int .i64 0, .int .i64 0, .int .i64 0, .int .i64 0, .int .i64 0] 34 (0, 0)) (by exact fB_ BK240) hb); replace BK241 := Aside0.mk (blk_below (g := gb241) (o := .cells #[.slice A0_0 l0_0.length c0_0, .int .i64 a0_1, .int .i64 a0_2, .int .i64 a0_3, .int .i64 a0_4, .int .i64 a0_5, .int .i64 a0_6] 34 (0, 0)) (by exact fB_ BK241) hb); replace HB := Aside0.mk (below_step (by repeat (first | (with_reducible first | exact HB.out | apply ba_ | apply bn_ | apply bd_ | refine bset_ ?_ (by assumption)) | exact HB.out)) hb); (try clear hb); (try clear hb2); (try clear hk); (try clear hi); (try clear ho0)) | ((with_reducible refine gate_dst (N := 8) rfl ?_); refine box_event ?hg (N := 8) ?hd (cs := #[.slice none 0 0, .int .i64 0, .int .i64 0, .int .i64 0, .int .i64 0, .int .i64 0, .int .i64 0]) (t := 34) ?hr ?_; (case hd => rfl); (case hg => rfl); (case hr => exact gs_); intro gb252 hg w38 hbox hb; replace HO244 := Aside0.mk (Kd.S_below (sK_ HO244) hb); have BK252 := Aside0.mk (hbox); have GW252 := gE_ HB hg; have GE252 := gE_ HB hg; replace HB := Aside0.mk (below_step (by repeat (first | (with_reducible first | exact HB.out | apply ba_ | apply bn_ | apply bd_ | refine bset_ ?_ (by assumption)) | exact HB.out)) hb); have NB239_252 := nB_ BK239 hg; have NB252_239 := nA_ BK239 hg; replace BK239 := bB_ BK239 hb; have NB240_252 := nB_ BK240 hg; have NB252_240 := nA_ BK240 hg; replace BK240 := bB_ BK240 hb; have NB241_252 := nB_ BK241 hg; have NB252_241 := nA_ BK241 hg; replace BK241 := bB_ BK241 hb; clear hb hbox hg; obtain ⟨Ao39, co39, eo39⟩ := Kd.S_slice HO244.out; subst eo39; have hnb40 := NB252_239.out; have hnc40 := NB239_252.out; have hnb41 := NB252_240.out; have hnc41 := NB240_252.out; have hnb42 := NB252_241.out; have hnc42 := NB241_252.out; obtain ⟨hcz43_0, hcz43_1, hcz43_2, hcz43_3, hcz43_4, hcz43_5, hcz43_6, hfz43_0, hfz43_1, hfz43_2, hfz43_3, hfz43_4, hfz43_5, hfz43_6⟩ := zc7_ BK252; obtain ⟨hcz44_0, hcz44_1, hcz44_2, hcz44_3, hcz44_4, hcz44_5, hcz44_6, hfz44_0, hfz44_1, hfz44_2, hfz44_3, hfz44_4, hfz44_5, hfz44_6⟩ := zc7_ BK240))
   refine bodyPost_ret (results_ct rfl _ _ gb240 34 #[.slice none 0 0, .int .i64 0, .int .i64 0, .int .i64 0, .int .i64 0, .int .i64 0, .int .i64 0] (0, 0) _ rfl (by exact fB_ BK240) Try.underlying34 rfl (by kernel_rfl)) rfl ?_
   exact ⟨_, er_, by first | exact Kd.S_nil _ _ _ _ _ | exact Kd.N_nil _ _ _ _ _ | exact Kd.V_nil _ _ _ _ _ | exact Kd.Q_nil _ _ _ _ _ | exact Kd.R_nil _ _ _ _ _, by repeat (first | (with_reducible first | exact HB.out | apply below_alloc | apply pw_below_drewN | apply below_drew1 | refine below_set ?_ GE239.out | refine below_set ?_ GE240.out | refine below_set ?_ GE241.out | refine below_set ?_ GE252.out) | exact HB.out)⟩
 ·rw [if_neg c3] at H
  have c3b0 : decide (0 < (wrap64 ((l1.length : Int) - (wrap64 (a0_6 - a0_5))))) = false := decide_eq_false c3
  clear c3
  replace H := Option.bind_eq_some_iff.mp H
  obtain ⟨t256, A450, H⟩ := H
  replace H : (some (t256, a0_1, a0_2, a0_3, a0_4, wrap64 (a0_5 + (l1.length : Int)), a0_6, true)) = some (r1, r2, r3, r4, r5, r6, r7, r8) := H
  have A45 := Aside0.mk A450
  clear A450
  simp only [Option.some.injEq, Prod.mk.injEq] at H
  obtain ⟨rfl, rfl, rfl, rfl, rfl, rfl, rfl, rfl⟩ := H
  go_enter Try.func84, Try.ntmps84
  go_wp2_with (first | ((with_reducible refine gate_dst (N := 2) rfl ?_); refine box_event ?hg (N := 2) ?hd (cs := #[.slice A0_0 l0_0.length c0_0, .int .i64 a0_1, .int .i64 a0_2, .int .i64 a0_3, .int .i64 a0_4, .int .i64 a0_5, .int .i64 a0_6]) (t := 34) ?hr ?_; (case hd => rfl); (case hg => rfl); (case hr => exact gs_); intro gb239 hg w46 hbox hb; have BK239 := Aside0.mk (hbox); have GW239 := gE_ HB hg; have GE239 := gE_ HB hg; replace HB := Aside0.mk (below_step (by repeat (first | (with_reducible first | exact HB.out | apply ba_ | apply bn_ | apply bd_) | exact HB.out)) hb); clear hb hbox hg) | ((with_reducible refine gate_dst (N := 4) rfl ?_); refine box_event ?hg (N := 4) ?hd (cs := #[.slice none 0 0, .int .i64 0, .int .i64 0, .int .i64 0, .int .i64 0, .int .i64 0, .int .i64 0]) (t := 34) ?hr ?_; (case hd => rfl); (case hg => rfl); (case hr => exact gs_); intro gb240 hg w47 hbox hb; have BK240 := Aside0.mk (hbox); have GW240 := gE_ HB hg; have GE240 := gE_ HB hg; replace HB := Aside0.mk (below_step (by repeat (first | (with_reducible first | exact HB.out | apply ba_ | apply bn_ | apply bd_ | refine bset_ ?_ (by assumption)) | exact HB.out)) hb); have NB239_240 := nB_ BK239 hg; have NB240_239 := nA_ BK239 hg; replace BK239 := bB_ BK239 hb; clear hb hbox hg; have hnb48 := NB239_240.out; have hnc48 := NB240_239.out; obtain ⟨hcz49_0, hcz49_1, hcz49_2, hcz49_3, hcz49_4, hcz49_5, hcz49_6, hfz49_0, hfz49_1, hfz49_2, hfz49_3, hfz49_4, hfz49_5, hfz49_6⟩ := zc7_ BK239) | ((with_reducible refine gate_dst (N := 6) rfl ?_); refine box_event ?hg (N := 6) ?hd (cs := #[.slice none 0 0, .int .i64 0, .int .i64 0, .int .i64 0, .int .i64 0, .int .i64 0, .int .i64 0]) (t := 34) ?hr ?_; (case hd => rfl); (case hg => rfl); (case hr => exact gs_); intro gb241 hg w50 hbox hb; have BK241 := Aside0.mk (hbox); have GW241 := gE_ HB hg; have GE241 := gE_ HB hg; replace HB := Aside0.mk (below_step (by repeat (first | (with_reducible first | exact HB.out | apply ba_ | apply bn_ | apply bd_ | refine bset_ ?_ (by assumption)) | exact HB.out)) hb); have NB239_241 := nB_ BK239 hg; have NB241_239 := nA_ BK239 hg; replace BK239 := bB_ BK239 hb; have NB240_241 := nB_ BK240 hg; have NB241_240 := nA_ BK240 hg; replace BK240 := bB_ BK240 hb; clear hb hbox hg; have hnb51 := NB241_239.out; have hnc51 := NB239_241.out; have hnb52 := NB241_240.out; have hnc52 := NB240_241.out; obtain ⟨hcz53_0, hcz53_1, hcz53_2, hcz53_3, hcz53_4, hcz53_5, hcz53_6, hfz53_0, hfz53_1, hfz53_2, hfz53_3, hfz53_4, hfz53_5, hfz53_6⟩ := zc7_ BK241; obtain ⟨hcz54_0, hcz54_1, hcz54_2, hcz54_3, hcz54_4, hcz54_5, hcz54_6, hfz54_0, hfz54_1, hfz54_2, hfz54_3, hfz54_4, hfz54_5, hfz54_6⟩ := zc7_ BK239) | ((with_reducible refine gate_callee (f := 106) rfl ?_); refine goesL_ (some 38) rfl rfl Try.func106 (by kernel_rfl) rfl #[.agg #[.slice A0_0 l0_0.length c0_0], .agg #[.int .i64 a0_1, .int .i64 a0_2, .int .i64 a0_3, .int .i64 a0_4], .int .i64 a0_5, .slice A1 l1.length c1] rfl ar_ ?_; (with_reducible refine (spec_l2Write.calls k _ _ l0_0 a0_1 a0_2 a0_3 a0_4 a0_5 _ _ l1 t256 _ ?side1 ?side2 ?side3 ?side4 A45.out).mono ?_); (case side1 => exact Kd.C_below HR0_0.out (by repeat (first | (with_reducible first | exact HB.out | apply ba_ | apply bn_ | apply bd_ | refine bset_ ?_ (by assumption)) | exact HB.out))); (case side2 => exact HC0_0.out); (case side3 => exact Kd.C_below HR1.out (by repeat (first | (with_reducible first | exact HB.out | apply ba_ | apply bn_ | apply bd_ | refine bset_ ?_ (by assumption)) | exact HB.out))); (case side4 => exact HC1.out); rintro e w55 ⟨v257, rfl, ho0, hb⟩; refine ⟨_, rfl, ?_⟩; have HO258 := Aside0.mk (sL_ ho0 HB); replace BK239 := Aside0.mk (blk_below (g := gb239) (o := .cells #[.slice A0_0 l0_0.length c0_0, .int .i64 a0_1, .int .i64 a0_2, .int .i64 a0_3, .int .i64 a0_4, .int .i64 a0_5, .int .i64 a0_6] 34 (0, 0)) (by exact fB_ BK239) hb); replace BK240 := Aside0.mk (blk_below (g := gb240) (o := .cells #[.slice none 0 0, .int .i64 0, .int .i64 0, .int .i64 0, .int .i64 0, .int .i64 0, .int .i64 0] 34 (0, 0)) (by exact fB_ BK240) hb); replace BK241 := Aside0.mk (blk_below (g := gb241) (o := .cells #[.slice A0_0 l0_0.length c0_0, .int .i64 a0_1, .int .i64 a0_2, .int .i64 a0_3, .int .i64 a0_4, .int .i64 a0_5, .int .i64 a0_6] 34 (0, 0)) (by exact fB_ BK241) hb); replace HB := Aside0.mk (below_step (by repeat (first | (with_reducible first | exact HB.out | apply ba_ | apply bn_ | apply bd_ | refine bset_ ?_ (by assumption)) | exact HB.out)) hb); (try clear hb); (try clear hb2); (try clear hk); (try clear hi); (try clear ho0); obtain ⟨Ao56, co56, eo56⟩ := Kd.S_slice HO258.out; subst eo56; obtain ⟨hcz57_0, hcz57_1, hcz57_2, hcz57_3, hcz57_4, hcz57_5, hcz57_6, hfz57_0, hfz57_1, hfz57_2, hfz57_3, hfz57_4, hfz57_5, hfz57_6⟩ := zc7_ BK241; obtain ⟨hcz58_0, hcz58_1, hcz58_2, hcz58_3, hcz58_4, hcz58_5, hcz58_6, hfz58_0, hfz58_1, hfz58_2, hfz58_3, hfz58_4, hfz58_5, hfz58_6⟩ := zc7_ BK240))
  refine bodyPost_ret (results_ct rfl _ _ gb240 34 #[.slice Ao56 t256.length co56, .int .i64 a0_1, .int .i64 a0_2, .int .i64 a0_3, .int .i64 a0_4, .int .i64 (wrap64 (a0_5 + (l1.length : Int))), .int .i64 a0_6] (0, 0) _ rfl (by exact fB_ BK240) Try.underlying34 rfl (by kernel_rfl)) rfl ?_
  exact ⟨_, er_, by (with_reducible repeat first | apply ks1_ | apply ks2_ | apply ks3_); exact Kd.S_mono (sf7_ gb240 (Kd.S_far (p := ⟨gb241, 5, none⟩) (sf1_ gb241 (Kd.S_types (Kd.S_types HO258.out BK241.out (by decide)) BK240.out (by decide)) (fun _ hk => hk.1.2)) (fun _ hk => hk.1.2) (.int .i64 (wrap64 (a0_5 + (l1.length : Int))))) (fun _ hk => hk.2)) (fun _ hk => trivial), by repeat (first | (with_reducible first | exact HB.out | apply below_alloc | apply pw_below_drewN | apply below_drew1 | refine below_set ?_ GE239.out | refine below_set ?_ GE240.out | refine below_set ?_ GE241.out) | exact HB.out)⟩
end Go.Proofs.Ytmkcbbbknbahgaa.P
namespace Go.Proofs.Ytmkcbbbknbahgaa.P
open Go.RowKit Go.Proofs.YtmkcbbbknbahgaaW.PrintWords Go.Proofs.YtmkcbbbknbahgaaW.PrintLast Go.Proofs.YtmkcbbbknbahgaaW.PrintMore
attribute [local go_sem] max2_int min2_int max_two min_two max_three min_three max_four min_four   -- for this text's walks alone
set_option linter.unusedVariables false
set_option linter.unusedSimpArgs false

def spec_PutBytes.f (k : Nat) (l0_0 : List (List Int)) (a0_1 : Int) (a0_2 : Int) (a0_3 : Int) (a0_4 : Int) (a0_5 : Int) (a0_6 : Int) (l1 : List Int) : Option ((List (List Int)) × Int × Int × Int × Int × Int × Int × Bool) := (spec_l6Gap.f k l0_0 a0_1 a0_2 a0_3 a0_4 a0_5 a0_6).bind fun t261 => (if t261 = true then ((spec_l6Put.f k l0_0 a0_1 a0_2 a0_3 a0_4 a0_5 a0_6 l1).bind fun bt262 => (some (bt262.1, bt262.2.1, bt262.2.2.1, bt262.2.2.2.1, bt262.2.2.2.2.1, bt262.2.2.2.2.2.1, bt262.2.2.2.2.2.2.1, bt262.2.2.2.2.2.2.2))) else (some (([] : List (List Int)), 0, 0, 0, 0, 0, 0, false)))

set_option maxHeartbeats 8000000 in
set_option maxRecDepth 100000 in
theorem spec_PutBytes.calls (k : Nat) (A0_0 : Option Addr) (c0_0 : Nat) (l0_0 : List (List Int)) (a0_1 : Int) (a0_2 : Int) (a0_3 : Int) (a0_4 : Int) (a0_5 : Int) (a0_6 : Int) (A1 : Option Addr) (c1 : Nat) (l1 : List Int) (r1 : List (List Int)) (r2 : Int) (r3 : Int) (r4 : Int) (r5 : Int) (r6 : Int) (r7 : Int) (r8 : Bool) (w : World) (hr0_0 : Kd.C (Kd.slice 5 (Kd.int .u8)) w A0_0 l0_0.length l0_0) (hc0_0 : l0_0.length ≤ c0_0) (hr1 : Kd.C (Kd.int .u8) w A1 l1.length l1) (hc1 : l1.length ≤ c1) (h : spec_PutBytes.f k l0_0 a0_1 a0_2 a0_3 a0_4 a0_5 a0_6 l1 = some (r1, r2, r3, r4, r5, r6, r7, r8)) :
  Calls Try.prog 14 #[.agg #[.slice A0_0 l0_0.length c0_0, .int .i64 a0_1, .int .i64 a0_2, .int .i64 a0_3, .int .i64 a0_4, .int .i64 a0_5, .int .i64 a0_6], .slice A1 l1.length c1] w fun e w' => ∃ v0_ : Value, e = .returned (.tuple #[.agg #[v0_, .int .i64 r2, .int .i64 r3, .int .i64 r4, .int .i64 r5, .int .i64 r6, .int .i64 r7], .bool r8]) ∧ Kd.S (Kd.slice 5 (Kd.int .u8)) 29 w' w.heap.size (fun _ => True) v0_ r1 ∧ Below w.heap.size w w' := by
 have hu34 := Try.underlying34
 have HR0_0 := Aside0.mk hr0_0
 have HC0_0 := Aside0.mk hc0_0
 clear hr0_0 hc0_0
 have HR1 := Aside0.mk hr1
 have HC1 := Aside0.mk hc1
 clear hr1 hc1
 have HB := Aside0.mk (Below.refl w.heap.size w)
 have H : ((spec_l6Gap.f k l0_0 a0_1 a0_2 a0_3 a0_4 a0_5 a0_6).bind fun t261 => (if t261 = true then ((spec_l6Put.f k l0_0 a0_1 a0_2 a0_3 a0_4 a0_5 a0_6 l1).bind fun bt262 => (some (bt262.1, bt262.2.1, bt262.2.2.1, bt262.2.2.2.1, bt262.2.2.2.2.1, bt262.2.2.2.2.2.1, bt262.2.2.2.2.2.2.1, bt262.2.2.2.2.2.2.2))) else (some (([] : List (List Int)), 0, 0, 0, 0, 0, 0, false)))) = some (r1, r2, r3, r4, r5, r6, r7, r8) := h
 clear h
 replace H := Option.bind_eq_some_iff.mp H
 obtain ⟨t261, A30, H⟩ := H
 replace H : (if t261 = true then ((spec_l6Put.f k l0_0 a0_1 a0_2 a0_3 a0_4 a0_5 a0_6 l1).bind fun bt262 => (some (bt262.1, bt262.2.1, bt262.2.2.1, bt262.2.2.2.1, bt262.2.2.2.2.1, bt262.2.2.2.2.2.1, bt262.2.2.2.2.2.2.1, bt262.2.2.2.2.2.2.2))) else (some (([] : List (List Int)), 0, 0, 0, 0, 0, 0, false))) = some (r1, r2, r3, r4, r5, r6, r7, r8) := H
 have A3 := Aside0.mk A30
 clear A30
 by_cases c4 : t261 = true
 ·subst c4
  rw [if_pos rfl] at H
  replace H := Option.bind_eq_some_iff.mp H
  obtain ⟨⟨t262, t265, t266, t267, t268, t269, t270, t271⟩, A50, H⟩ := H
  replace H : (some (t262, t265, t266, t267, t268, t269, t270, t271)) = some (r1, r2, r3, r4, r5, r6, r7, r8) := H
  have A5 := Aside0.mk A50
  clear A50
  simp only [Option.some.injEq, Prod.mk.injEq] at H
  obtain ⟨rfl, rfl, rfl, rfl, rfl, rfl, rfl, rfl⟩ := H
  go_enter Try.func14, Try.ntmps14
  go_wp2_with (first | ((with_reducible refine gate_dst (N := 2) rfl ?_); refine box_event ?hg (N := 2) ?hd (cs := #[.slice A0_0 l0_0.length c0_0, .int .i64 a0_1, .int .i64 a0_2, .int .i64 a0_3, .int .i64 a0_4, .int .i64 a0_5, .int .i64 a0_6]) (t := 34) ?hr ?_; (case hd => rfl); (case hg => rfl); (case hr => exact gs_); intro gb259 hg w6 hbox hb; have BK259 := Aside0.mk (hbox); have GW259 := gE_ HB hg; have GE259 := gE_ HB hg; replace HB := Aside0.mk (below_step (by repeat (first | (with_reducible first | exact HB.out | apply ba_ | apply bn_ | apply bd_) | exact HB.out)) hb); clear hb hbox hg) | ((with_reducible refine gate_dst (N := 4) rfl ?_); refine box_event ?hg (N := 4) ?hd (cs := #[.slice none 0 0, .int .i64 0, .int .i64 0, .int .i64 0, .int .i64 0, .int .i64 0, .int .i64 0]) (t := 34) ?hr ?_; (case hd => rfl); (case hg => rfl); (case hr => exact gs_); intro gb260 hg w7 hbox hb; have BK260 := Aside0.mk (hbox); have GW260 := gE_ HB hg; have GE260 := gE_ HB hg; replace HB := Aside0.mk (below_step (by repeat (first | (with_reducible first | exact HB.out | apply ba_ | apply bn_ | apply bd_ | refine bset_ ?_ (by assumption)) | exact HB.out)) hb); have NB259_260 := nB_ BK259 hg; have NB260_259 := nA_ BK259 hg; replace BK259 := bB_ BK259 hb; clear hb hbox hg; have hnb8 := NB259_260.out; have hnc8 := NB260_259.out; obtain ⟨hcz9_0, hcz9_1, hcz9_2, hcz9_3, hcz9_4, hcz9_5, hcz9_6, hfz9_0, hfz9_1, hfz9_2, hfz9_3, hfz9_4, hfz9_5, hfz9_6⟩ := zc7_ BK259) | ((with_reducible refine gate_callee (f := 83) rfl ?_); refine goesL_ (some 7) rfl rfl Try.func83 (by kernel_rfl) rfl #[.agg #[.slice A0_0 l0_0.length c0_0, .int .i64 a0_1, .int .i64 a0_2, .int .i64 a0_3, .int .i64 a0_4, .int .i64 a0_5, .int .i64 a0_6]] rfl ar_ ?_; (with_reducible refine (spec_l6Gap.calls k _ _ l0_0 a0_1 a0_2 a0_3 a0_4 a0_5 a0_6 true _ ?side1 ?side2 A3.out).mono ?_); (case side1 => exact cS_ (Kd.C_below HR0_0.out HB.out)); (case side2 => exact HC0_0.out); rintro e w10 ⟨rfl, hb⟩; refine ⟨_, rfl, ?_⟩; replace BK259 := bB_ BK259 hb; replace BK260 := bB_ BK260 hb; replace HB := Aside0.mk (below_step (by repeat (first | (with_reducible first | exact HB.out | apply ba_ | apply bn_ | apply bd_ | refine bset_ ?_ (by assumption)) | exact HB.out)) hb); (try clear hb); (try clear hb2); (try clear hk); (try clear hi); obtain ⟨hcz11_0, hcz11_1, hcz11_2, hcz11_3, hcz11_4, hcz11_5, hcz11_6, hfz11_0, hfz11_1, hfz11_2, hfz11_3, hfz11_4, hfz11_5, hfz11_6⟩ := zc7_ BK259) | ((with_reducible refine gate_callee (f := 84) rfl ?_); refine goesL_ (some 12) rfl rfl Try.func84 (by kernel_rfl) rfl #[.agg #[.slice A0_0 l0_0.length c0_0, .int .i64 a0_1, .int .i64 a0_2, .int .i64 a0_3, .int .i64 a0_4, .int .i64 a0_5, .int .i64 a0_6], .slice A1 l1.length c1] rfl ar_ ?_; (with_reducible refine (spec_l6Put.calls k _ _ l0_0 a0_1 a0_2 a0_3 a0_4 a0_5 a0_6 _ _ l1 t262 t265 t266 t267 t268 t269 t270 t271 _ ?side1 ?side2 ?side3 ?side4 A5.out).mono ?_); (case side1 => exact cS_ (Kd.C_below HR0_0.out HB.out)); (case side2 => exact HC0_0.out); (case side3 => exact cS_ (Kd.C_below HR1.out HB.out)); (case side4 => exact HC1.out); rintro e w12 ⟨v263, rfl, ho0, hb⟩; refine ⟨_, rfl, ?_⟩; have HO264 := Aside0.mk (sL_ ho0 HB); replace BK259 := bB_ BK259 hb; replace BK260 := bB_ BK260 hb; replace HB := Aside0.mk (below_step (by repeat (first | (with_reducible first | exact HB.out | apply ba_ | apply bn_ | apply bd_ | refine bset_ ?_ (by assumption)) | exact HB.out)) hb); (try clear hb); (try clear hb2); (try clear hk); (try clear hi); (try clear ho0); obtain ⟨Ao13, co13, eo13⟩ := Kd.S_slice HO264.out; subst eo13; obtain ⟨hcz14_0, hcz14_1, hcz14_2, hcz14_3, hcz14_4, hcz14_5, hcz14_6, hfz14_0, hfz14_1, hfz14_2, hfz14_3, hfz14_4, hfz14_5, hfz14_6⟩ := zc7_ BK260))
  refine bodyPost_ret (results_ct rfl _ _ gb260 34 #[.slice Ao13 t262.length co13, .int .i64 t265, .int .i64 t266, .int .i64 t267, .int .i64 t268, .int .i64 t269, .int .i64 t270] (0, 0) _ rfl (by exact fB_ BK260) Try.underlying34 rfl (by kernel_rfl)) rfl ?_
  exact ⟨_, er_, by (with_reducible repeat first | apply ks1_ | apply ks2_ | apply ks3_); exact Kd.S_mono (sf7_ gb260 (Kd.S_types HO264.out BK260.out (by decide)) (fun _ hk => hk.2)) (fun _ hk => trivial), by repeat (first | (with_reducible first | exact HB.out | apply below_alloc | apply pw_below_drewN | apply below_drew1 | refine below_set ?_ GE259.out | refine below_set ?_ GE260.out) | exact HB.out)⟩
 ·replace c4 := Bool.eq_false_iff.mpr c4
  subst c4
  rw [if_neg (show ¬ (false = true) by decide)] at H
  simp only [Option.some.injEq, Prod.mk.injEq] at H
  obtain ⟨rfl, rfl, rfl, rfl, rfl, rfl, rfl, rfl⟩ := H
  go_enter Try.func14, Try.ntmps14
  go_wp2_with (first | ((with_reducible refine gate_dst (N := 2) rfl ?_); refine box_event ?hg (N := 2) ?hd (cs := #[.slice A0_0 l0_0.length c0_0, .int .i64 a0_1, .int .i64 a0_2, .int .i64 a0_3, .int .i64 a0_4, .int .i64 a0_5, .int .i64 a0_6]) (t := 34) ?hr ?_; (case hd => rfl); (case hg => rfl); (case hr => exact gs_); intro gb259 hg w15 hbox hb; have BK259 := Aside0.mk (hbox); have GW259 := gE_ HB hg; have GE259 := gE_ HB hg; replace HB := Aside0.mk (below_step (by repeat (first | (with_reducible first | exact HB.out | apply ba_ | apply bn_ | apply bd_) | exact HB.out)) hb); clear hb hbox hg) | ((with_reducible refine gate_dst (N := 4) rfl ?_); refine box_event ?hg (N := 4) ?hd (cs := #[.slice none 0 0, .int .i64 0, .int .i64 0, .int .i64 0, .int .i64 0, .int .i64 0, .int .i64 0]) (t := 34) ?hr ?_; (case hd => rfl); (case hg => rfl); (case hr => exact gs_); intro gb260 hg w16 hbox hb; have BK260 := Aside0.mk (hbox); have GW260 := gE_ HB hg; have GE260 := gE_ HB hg; replace HB := Aside0.mk (below_step (by repeat (first | (with_reducible first | exact HB.out | apply ba_ | apply bn_ | apply bd_ | refine bset_ ?_ (by assumption)) | exact HB.out)) hb); have NB259_260 := nB_ BK259 hg; have NB260_259 := nA_ BK259 hg; replace BK259 := bB_ BK259 hb; clear hb hbox hg; have hnb17 := NB259_260.out; have hnc17 := NB260_259.out; obtain ⟨hcz18_0, hcz18_1, hcz18_2, hcz18_3, hcz18_4, hcz18_5, hcz18_6, hfz18_0, hfz18_1, hfz18_2, hfz18_3, hfz18_4, hfz18_5, hfz18_6⟩ := zc7_ BK259) | ((with_reducible refine gate_callee (f := 83) rfl ?_); refine goesL_ (some 7) rfl rfl Try.func83 (by kernel_rfl) rfl #[.agg #[.slice A0_0 l0_0.length c0_0, .int .i64 a0_1, .int .i64 a0_2, .int .i64 a0_3, .int .i64 a0_4, .int .i64 a0_5, .int .i64 a0_6]] rfl ar_ ?_; (with_reducible refine (spec_l6Gap.calls k _ _ l0_0 a0_1 a0_2 a0_3 a0_4 a0_5 a0_6 false _ ?side1 ?side2 A3.out).mono ?_); (case side1 => exact cS_ (Kd.C_below HR0_0.out HB.out)); (case side2 => exact HC0_0.out); rintro e w19 ⟨rfl, hb⟩; refine ⟨_, rfl, ?_⟩; replace BK259 := bB_ BK259 hb; replace BK260 := bB_ BK260 hb; replace HB := Aside0.mk (below_step (by repeat (first | (with_reducible first | exact HB.out | apply ba_ | apply bn_ | apply bd_ | refine bset_ ?_ (by assumption)) | exact HB.out)) hb); (try clear hb); (try clear hb2); (try clear hk); (try clear hi); obtain ⟨hcz20_0, hcz20_1, hcz20_2, hcz20_3, hcz20_4, hcz20_5, hcz20_6, hfz20_0, hfz20_1, hfz20_2, hfz20_3, hfz20_4, hfz20_5, hfz20_6⟩ := zc7_ BK260))
  refine bodyPost_ret (results_ct rfl _ _ gb260 34 #[.slice none 0 0, .int .i64 0, .int .i64 0, .int .i64 0, .int .i64 0, .int .i64 0, .int .i64 0] (0, 0) _ rfl (by exact fB_ BK260) Try.underlying34 rfl (by kernel_rfl)) rfl ?_
  exact ⟨_, er_, by first | exact Kd.S_nil _ _ _ _ _ | exact Kd.N_nil _ _ _ _ _ | exact Kd.V_nil _ _ _ _ _ | exact Kd.Q_nil _ _ _ _ _ | exact Kd.R_nil _ _ _ _ _, by repeat (first | (with_reducible first | exact HB.out | apply below_alloc | apply pw_below_drewN | apply below_drew1 | refine below_set ?_ GE259.out | refine below_set ?_ GE260.out) | exact HB.out)⟩
end Go.Proofs.Ytmkcbbbknbahgaa.P
namespace Go.Proofs.Ytmkcbbbknbahgaa.P
open Go.RowKit Go.Proofs.YtmkcbbbknbahgaaW.PrintWords Go.Proofs.YtmkcbbbknbahgaaW.PrintLast Go.Proofs.YtmkcbbbknbahgaaW.PrintMore
attribute [local go_sem] max2_int min2_int max_two min_two max_three min_three max_four min_four   -- for this text's walks alone
set_option linter.unusedVariables false
set_option linter.unusedSimpArgs false

def laws_toByteS.l0 : Nat → List Int → List Int → Int → Option (List Int)
 | 0, _, _, _ => none
 | k + 1, x0, x3, x4 => if x4 < (x0.length : Int) then (if 0 ≤ x4 then (if x4 < (x3.length : Int) then (laws_toByteS.l0 k x0 (x3.set (x4 : Int).toNat (rd x0 x4)) (wrap64 (x4 + 1))) else (none)) else (none)) else (some x3)

def laws_toByteS.f (k : Nat) (l0 : List Int) : Option (List Int) := if 0 ≤ (l0.length : Int) then (if ((l0.length : Int) : Int).toNat ≤ 281474976710656 then (laws_toByteS.l0 k l0 (List.replicate ((l0.length : Int) : Int).toNat 0) 0) else (none)) else (none)

set_option maxHeartbeats 8000000 in
set_option maxRecDepth 100000 in
theorem laws_toByteS.calls (k : Nat) (A0 : Option Addr) (c0 : Nat) (l0 : List Int) (r : List Int) (w : World) (hr0 : Kd.C (Kd.int .u8) w A0 l0.length l0) (hc0 : l0.length ≤ c0) (h : laws_toByteS.f k l0 = some r) :
  Calls Try.prog 16 #[.slice A0 l0.length c0] w fun e w' => ∃ v0_ : Value, e = .returned (v0_) ∧ Kd.R (Kd.int .u8) 5 w' w.heap.size (fun _ => True) v0_ r ∧ Below w.heap.size w w' := by
 have HR0 := Aside0.mk hr0
 have HC0 := Aside0.mk hc0
 clear hr0 hc0
 have HB := Aside0.mk (Below.refl w.heap.size w)
 have H : (if 0 ≤ (l0.length : Int) then (if ((l0.length : Int) : Int).toNat ≤ 281474976710656 then (laws_toByteS.l0 k l0 (List.replicate ((l0.length : Int) : Int).toNat 0) 0) else (none)) else (none)) = some r := h
 clear h
 by_cases c2 : 0 ≤ (l0.length : Int)
 ·rw [if_pos c2] at H
  have c2b0 := eq_true c2
  have c2b1 : decide (0 ≤ (l0.length : Int)) = true := decide_eq_true c2
  clear c2
  by_cases c3 : ((l0.length : Int) : Int).toNat ≤ 281474976710656
  ·rw [if_pos c3] at H
   have c3b0 := eq_true c3
   have c3b1 : decide (((l0.length : Int) : Int).toNat ≤ 281474976710656) = true := decide_eq_true c3
   clear c3
   obtain ⟨y272, hy272⟩ : ∃ y_ : List Int, y_ = (List.replicate ((l0.length : Int) : Int).toNat 0) := ⟨_, rfl⟩
   replace H : (laws_toByteS.l0 k l0 y272 0) = some r := by first | (rw [hy272]; with_reducible exact H) | (have H2_ := (Option.bind_some _ _).symm.trans H; rw [hy272]; with_reducible exact H2_) | (have H2_ := (Option.bind_some _ _).symm.trans H; with_reducible exact H2_) | with_reducible exact H | (rw [hy272]; exact H) | exact H
   have Ny272 := Aside0.mk hy272
   clear hy272
   have H' := Aside0.mk H
   clear H
   go_enter Try.func16, Try.ntmps16
   go_wp2_with (first | ((with_reducible refine gate_dst (N := 7) rfl ?_); refine Kd.R_make (Kd.int .u8) _ 5 rfl (N := 7) rfl 29 _ _ rfl (l0.length : Int) rfl rfl Try.underlying29 (.int .u8 0) 1 info5 rfl (by decide) (by omega) 0 (ok := fun _ => True) (okp := fun _ => True) rfl (fun _ hk => hk) trivial (of_decide_eq_true as_) (Nat.le_trans (Nat.mul_le_mul_right _ (of_decide_eq_true as_ : (l0.length : Int).toNat ≤ 281474976710656)) (by omega)) (Below.refl _ _) (Nat.le_refl _) ?_; intro v273 w4 ho5 hb hg_ hnew_; clear hg_ hnew_; (first | rw [← Ny272.out] at ho5 | (simp only [Int.reduceToNat] at ho5; rw [← Ny272.out] at ho5)); have HO274 := Aside0.mk (rL_ ho5 HB); replace HB := Aside0.mk (below_step (by repeat (first | (with_reducible first | exact HB.out | apply ba_ | apply bn_ | apply bd_) | exact HB.out)) hb); clear hb ho5))
   go_loopg [4] k (fun kq v4 w' => ∃ (x3_1 : List Int) (x4_1 : Int), v4 = .int .i64 x4_1 ∧ Aside0 (laws_toByteS.l0 kq l0 x3_1 x4_1 = some r) ∧ Aside0 (kq ≤ k) ∧ Aside0 (Kd.R (Kd.int .u8) 5 w' w.heap.size (fun _ => True) v273 x3_1) ∧ Aside0 (Below w.heap.size w w'))
   case atStart => exact ⟨(y272), (0), (by first | rfl | (simp; done) | (simp [*]; done)), H', ⟨Nat.le_refl _⟩, ⟨by (with_reducible repeat first | apply kr1_ | apply kr2_ | apply kr3_); exact HO274.out⟩, ⟨by repeat (first | (with_reducible first | exact HB.out | apply below_alloc | apply pw_below_drewN | apply below_drew1) | exact HB.out)⟩⟩
   case round =>
    clear H'
    try clear c1
    try clear c2
    try clear c2b0
    try clear c2b1
    try clear p2
    try clear c3
    try clear c3b0
    try clear c3b1
    obtain ⟨x3_1, x4_1, rfl, HA, HK1, HO_3, HB⟩ := hrel
    cases gk with
    | zero => exact absurd HA.out (by simp [laws_toByteS.l0])
    | succ k1 =>
     have H := HA.out
     clear HA
     simp only [laws_toByteS.l0] at H
     by_cases c6 : x4_1 < (l0.length : Int)
     ·rw [if_pos c6] at H
      have c6b0 : decide (x4_1 < (l0.length : Int)) = true := decide_eq_true c6
      clear c6
      by_cases c7 : 0 ≤ x4_1
      ·rw [if_pos c7] at H
       have c7b0 : decide (0 ≤ x4_1) = true := decide_eq_true c7
       clear c7
       by_cases c8 : x4_1 < (x3_1.length : Int)
       ·rw [if_pos c8] at H
        have c8b0 : decide (x4_1 < (x3_1.length : Int)) = true := decide_eq_true c8
        clear c8
        obtain ⟨y276, hy276⟩ : ∃ y_ : List Int, y_ = (x3_1.set (x4_1 : Int).toNat (rd l0 x4_1)) := ⟨_, rfl⟩
        replace H : (laws_toByteS.l0 k1 l0 y276 (wrap64 (x4_1 + 1))) = some r := by first | (rw [hy276]; with_reducible exact H) | (have H2_ := (Option.bind_some _ _).symm.trans H; rw [hy276]; with_reducible exact H2_) | (have H2_ := (Option.bind_some _ _).symm.trans H; with_reducible exact H2_) | with_reducible exact H | (rw [hy276]; exact H) | exact H
        have Ny276 := Aside0.mk hy276
        clear hy276
        have H' := Aside0.mk H
        clear H
        have p275 : 0 ≤ (x4_1 : Int) := of_decide_eq_true as_
        have q275 : x4_1 < (l0.length : Int) := of_decide_eq_true as_
        obtain ⟨ad275, e275, hx275_0⟩ := Kd.at_int HR0.out x4_1 p275 q275
        cases e275
        replace hx275_0 := (HB.out.cell (World.block_lt_of_cell? w _ hx275_0)).trans hx275_0
        replace p275 := eq_true p275
        replace q275 := eq_true q275
        have p9 : 0 ≤ (x4_1 : Int) := of_decide_eq_true as_
        have q9 : (x4_1 : Int) < ((x3_1.length : Int) : Int) := of_decide_eq_true as_
        obtain ⟨go9, co9, eo9, gb9, gl9, cl9, HG9⟩ := Kd.R_form HO_3.out (by omega)
        (first | cases eo9 | (injection eo9 with ea_ en_ ec_; (first | subst ea_ | (injection ea_ with ea_; subst ea_)); subst ec_; clear en_))
        have GB9 := Aside0.mk gb9
        have GG9 := Aside0.mk HG9
        clear gb9 gl9 HG9
        obtain ⟨hx9_0, hf9_0⟩ := Kd.R_celln 0 HO_3.out (x4_1 : Int) p9 q9
        replace p9 := eq_true p9
        replace q9 := eq_true q9
        have HP10 := Kd.R_putg HO_3.out (x4_1 : Int) (rd l0 x4_1)
        go_wp2_with (first | ((with_reducible refine gate_store (t := 5) (p := 20) rfl ?_); refine store_event (t := 5) (p := 20) (v := ?vo_w11) (w1 := (wr.setCell ⟨go9, (x4_1 : Int).toNat, none⟩ (.int .u8 (rd l0 x4_1)))) ?hg ?ho ?hn ?hr ?_; (case ho => rfl); (case hg => rfl); (case hn => rfl); (case hr => exact gs_); intro w11 hw; have hg : wr.grownBy w11 (some go9) := (by rw [hw]; exact HP10.2); have hp_ : Kd.R (Kd.int .u8) 5 w11 w.heap.size (fun _ => True) (.slice (some ⟨go9, 0, none⟩) x3_1.length co9) y276 := (by rw [hw, Ny276.out]; exact HP10.1); clear HP10; replace HO_3 := Aside0.mk (hp_); replace HB := Aside0.mk ((by rw [hw]; exact below_set (HB.out) GB9.out : Below w.heap.size w w11)); clear hg hw hp_))
        go_roundg k1
        case measure => have := HK1.out; omega
        case rel => exact ⟨(y276), (wrap64 (x4_1 + 1)), (by first | rfl | (simp; done) | (simp [*]; done)), H', ⟨by have := HK1.out; omega⟩, ⟨by (with_reducible repeat first | apply kr1_ | apply kr2_ | apply kr3_); exact HO_3.out⟩, ⟨by repeat (first | (with_reducible first | exact HB.out | apply below_alloc | apply pw_below_drewN | apply below_drew1) | exact HB.out)⟩⟩
       ·rw [if_neg c8] at H
        exact absurd H (by simp)
      ·rw [if_neg c7] at H
       exact absurd H (by simp)
     ·rw [if_neg c6] at H
      have c6b0 : decide (x4_1 < (l0.length : Int)) = false := decide_eq_false c6
      clear c6
      obtain rfl := Option.some.inj H
      go_wp2
      go_ret
      exact ⟨_, er_, by (with_reducible repeat first | apply kr1_ | apply kr2_ | apply kr3_); exact HO_3.out, by repeat (first | (with_reducible first | exact HB.out | apply below_alloc | apply pw_below_drewN | apply below_drew1) | exact HB.out)⟩
  ·rw [if_neg c3] at H
   exact absurd H (by simp)
 ·rw [if_neg c2] at H
  exact absurd H (by simp)
end Go.Proofs.Ytmkcbbbknbahgaa.P
namespace Go.Proofs.Ytmkcbbbknbahgaa.P
open Go.RowKit Go.Proofs.YtmkcbbbknbahgaaW.PrintWords Go.Proofs.YtmkcbbbknbahgaaW.PrintLast Go.Proofs.YtmkcbbbknbahgaaW.PrintMore
attribute [local go_sem] max2_int min2_int max_two min_two max_three min_three max_four min_four   -- for this text's walks alone
set_option linter.unusedVariables false
set_option linter.unusedSimpArgs false

def laws_toByteSS.l0 : Nat → List (List Int) → List (List Int) → Int → Option ((List (List Int)))
 | 0, _, _, _ => none
 | k + 1, x0, x3, x4 => if x4 < (x0.length : Int) then (if 0 ≤ x4 then ((laws_toByteS.f k (rd_L1 x0 x4)).bind fun t281 => (if x4 < (x3.length : Int) then (laws_toByteSS.l0 k x0 (x3.set (x4 : Int).toNat t281) (wrap64 (x4 + 1))) else (none))) else (none)) else (some x3)

def laws_toByteSS.f (k : Nat) (l0 : List (List Int)) : Option ((List (List Int))) := if 0 ≤ (l0.length : Int) then (if ((l0.length : Int) : Int).toNat ≤ 11728124029610 then (laws_toByteSS.l0 k l0 (List.replicate ((l0.length : Int) : Int).toNat []) 0) else (none)) else (none)

set_option maxHeartbeats 8000000 in
set_option maxRecDepth 100000 in
theorem laws_toByteSS.calls (k : Nat) (A0 : Option Addr) (c0 : Nat) (l0 : List (List Int)) (r : List (List Int)) (w : World) (hr0 : Kd.C (Kd.slice 5 (Kd.int .u8)) w A0 l0.length l0) (hc0 : l0.length ≤ c0) (h : laws_toByteSS.f k l0 = some r) :
  Calls Try.prog 120 #[.slice A0 l0.length c0] w fun e w' => ∃ v0_ : Value, e = .returned (v0_) ∧ Kd.S (Kd.slice 5 (Kd.int .u8)) 29 w' w.heap.size (fun _ => True) v0_ r ∧ Below w.heap.size w w' := by
 have HR0 := Aside0.mk hr0
 have HC0 := Aside0.mk hc0
 clear hr0 hc0
 have HB := Aside0.mk (Below.refl w.heap.size w)
 have H : (if 0 ≤ (l0.length : Int) then (if ((l0.length : Int) : Int).toNat ≤ 11728124029610 then (laws_toByteSS.l0 k l0 (List.replicate ((l0.length : Int) : Int).toNat []) 0) else (none)) else (none)) = some r := h
 clear h
 by_cases c2 : 0 ≤ (l0.length : Int)
 ·rw [if_pos c2] at H
  have c2b0 := eq_true c2
  have c2b1 : decide (0 ≤ (l0.length : Int)) = true := decide_eq_true c2
  clear c2
  by_cases c3 : ((l0.length : Int) : Int).toNat ≤ 11728124029610
  ·rw [if_pos c3] at H
   have c3b0 := eq_true c3
   have c3b1 : decide (((l0.length : Int) : Int).toNat ≤ 11728124029610) = true := decide_eq_true c3
   clear c3
   obtain ⟨y277, hy277⟩ : ∃ y_ : List (List Int), y_ = (List.replicate ((l0.length : Int) : Int).toNat []) := ⟨_, rfl⟩
   replace H : (laws_toByteSS.l0 k l0 y277 0) = some r := by first | (rw [hy277]; with_reducible exact H) | (have H2_ := (Option.bind_some _ _).symm.trans H; rw [hy277]; with_reducible exact H2_) | (have H2_ := (Option.bind_some _ _).symm.trans H; with_reducible exact H2_) | with_reducible exact H | (rw [hy277]; exact H) | exact H
   have Ny277 := Aside0.mk hy277
   clear hy277
   have H' := Aside0.mk H
   clear H
   go_enter Try.func120, Try.ntmps120
   go_wp2_with (first | ((with_reducible refine gate_dst (N := 7) rfl ?_); refine Kd.S_make (Kd.slice 5 (Kd.int .u8)) _ 29 rfl (N := 7) rfl 22 _ _ rfl (l0.length : Int) rfl rfl Try.underlying22 (.slice none 0 0) 24 info29 rfl (by decide) (by omega) [] (ok := fun _ => True) (okp := fun _ => True) ⟨_, rfl, Kd.R_nil _ _ _ _ _⟩ (fun _ hk => hk) trivial (of_decide_eq_true as_) (Nat.le_trans (Nat.mul_le_mul_right _ (of_decide_eq_true as_ : (l0.length : Int).toNat ≤ 11728124029610)) (by omega)) (Below.refl _ _) (Nat.le_refl _) ?_; intro v278 w4 ho5 hb hg_ hnew_; clear hg_ hnew_; (first | rw [← Ny277.out] at ho5 | (simp only [Int.reduceToNat] at ho5; rw [← Ny277.out] at ho5)); have HO279 := Aside0.mk (sL_ ho5 HB); replace HB := Aside0.mk (below_step (by repeat (first | (with_reducible first | exact HB.out | apply ba_ | apply bn_ | apply bd_) | exact HB.out)) hb); clear hb ho5))
   go_loopg [4] k (fun kq v4 w' => ∃ (x3_1 : List (List Int)) (x4_1 : Int), v4 = .int .i64 x4_1 ∧ Aside0 (laws_toByteSS.l0 kq l0 x3_1 x4_1 = some r) ∧ Aside0 (kq ≤ k) ∧ Aside0 (Kd.S (Kd.slice 5 (Kd.int .u8)) 29 w' w.heap.size (fun _ => True) v278 x3_1) ∧ Aside0 (Below w.heap.size w w'))
   case atStart => exact ⟨(y277), (0), (by first | rfl | (simp; done) | (simp [*]; done)), H', ⟨Nat.le_refl _⟩, ⟨by (with_reducible repeat first | apply ks1_ | apply ks2_ | apply ks3_); exact HO279.out⟩, ⟨by repeat (first | (with_reducible first | exact HB.out | apply below_alloc | apply pw_below_drewN | apply below_drew1) | exact HB.out)⟩⟩
   case round =>
    clear H'
    try clear c1
    try clear c2
    try clear c2b0
    try clear c2b1
    try clear p2
    try clear c3
    try clear c3b0
    try clear c3b1
    obtain ⟨x3_1, x4_1, rfl, HA, HK1, HO_3, HB⟩ := hrel
    cases gk with
    | zero => exact absurd HA.out (by simp [laws_toByteSS.l0])
    | succ k1 =>
     have H := HA.out
     clear HA
     simp only [laws_toByteSS.l0] at H
     by_cases c6 : x4_1 < (l0.length : Int)
     ·rw [if_pos c6] at H
      have c6b0 : decide (x4_1 < (l0.length : Int)) = true := decide_eq_true c6
      clear c6
      by_cases c7 : 0 ≤ x4_1
      ·rw [if_pos c7] at H
       have c7b0 : decide (0 ≤ x4_1) = true := decide_eq_true c7
       clear c7
       replace H := Option.bind_eq_some_iff.mp H
       obtain ⟨t281, A80, H⟩ := H
       replace H : (if x4_1 < (x3_1.length : Int) then (laws_toByteSS.l0 k1 l0 (x3_1.set (x4_1 : Int).toNat t281) (wrap64 (x4_1 + 1))) else (none)) = some r := H
       have A8 := Aside0.mk A80
       clear A80
       by_cases c9 : x4_1 < (x3_1.length : Int)
       ·rw [if_pos c9] at H
        have c9b0 : decide (x4_1 < (x3_1.length : Int)) = true := decide_eq_true c9
        clear c9
        obtain ⟨y284, hy284⟩ : ∃ y_ : List (List Int), y_ = (x3_1.set (x4_1 : Int).toNat t281) := ⟨_, rfl⟩
        replace H : (laws_toByteSS.l0 k1 l0 y284 (wrap64 (x4_1 + 1))) = some r := by first | (rw [hy284]; with_reducible exact H) | (have H2_ := (Option.bind_some _ _).symm.trans H; rw [hy284]; with_reducible exact H2_) | (have H2_ := (Option.bind_some _ _).symm.trans H; with_reducible exact H2_) | with_reducible exact H | (rw [hy284]; exact H) | exact H
        have Ny284 := Aside0.mk hy284
        clear hy284
        have H' := Aside0.mk H
        clear H
        have p280 : 0 ≤ (x4_1 : Int) := of_decide_eq_true as_
        have q280 : x4_1 < (l0.length : Int) := of_decide_eq_true as_
        obtain ⟨ad280, A280_0, c280_0, e280, hx280_0, hl280_0, hi280_0⟩ := at_L1 HR0.out x4_1 p280 q280
        cases e280
        replace hx280_0 := (HB.out.cell (World.block_lt_of_cell? w _ hx280_0)).trans hx280_0
        have HR280_0 := Aside0.mk hi280_0
        have HC280_0 := Aside0.mk hl280_0
        clear hi280_0 hl280_0
        replace p280 := eq_true p280
        replace q280 := eq_true q280
        go_wp2_with (first | ((with_reducible refine gate_callee (f := 16) rfl ?_); refine goesL_ (some 20) rfl rfl Try.func16 (by kernel_rfl) rfl #[.slice A280_0 (rd_L1 l0 x4_1).length c280_0] rfl ar_ ?_; (with_reducible refine (laws_toByteS.calls k1 _ _ (rd_L1 l0 x4_1) t281 _ ?side1 ?side2 A8.out).mono ?_); (case side1 => exact cS_ (Kd.C_below HR280_0.out HB.out)); (case side2 => exact HC280_0.out); rintro e w11 ⟨v282, rfl, ho0, hb⟩; refine ⟨_, rfl, ?_⟩; replace HO_3 := Aside0.mk (Kd.S_elder' (sK_ HO_3) (Kd.R_base ho0) hb); have HO283 := Aside0.mk (rL_ ho0 HB); replace HB := Aside0.mk (below_step (by repeat (first | (with_reducible first | exact HB.out | apply ba_ | apply bn_ | apply bd_) | exact HB.out)) hb); (try clear hb); (try clear hb2); (try clear hk); (try clear hi); (try clear ho0); have p10 : 0 ≤ (x4_1 : Int) := of_decide_eq_true as_; have q10 : (x4_1 : Int) < ((x3_1.length : Int) : Int) := of_decide_eq_true as_; obtain ⟨go10, co10, eo10, gb10, gl10, cl10, HG10⟩ := Kd.S_form HO_3.out (by omega); (first | cases eo10 | (injection eo10 with ea_ en_ ec_; (first | subst ea_ | (injection ea_ with ea_; subst ea_)); subst ec_; clear en_)); have GB10 := Aside0.mk gb10; have GG10 := Aside0.mk HG10; clear gb10 gl10 HG10; obtain ⟨_, ce10, hcl10, hM10, hcc10, hfr10, _, _⟩ := Kd.S_elem HO_3.out [] (x4_1 : Int) p10 q10; obtain ⟨ve10_0, rfl, ge10_0⟩ := hM10; have hx10_0 := hcc10 0 _ rfl; have hf10_0 := hfr10 0; (try simp only [show ((Kd.slice 5 (Kd.int .u8))).sz = 1 from rfl, Nat.mul_one, Nat.add_zero] at hx10_0); (try simp only [show ((Kd.slice 5 (Kd.int .u8))).sz = 1 from rfl, Nat.mul_one, Nat.add_zero] at hf10_0); clear hcl10 hcc10 hfr10; (try clear hM10); replace p10 := eq_true p10; replace q10 := eq_true q10; have n_ := Aside0.mk (Kd.S_mono (ok' := (fun k_ => some k_ ≠ (v282 : Value).ownBlock)) HO_3.out (fun k_ hk => hk.2)); clear HO_3; have HO_3 := n_; clear n_; have HX12 := Aside0.mk (show Kd.S (Kd.slice 5 (Kd.int .u8)) 29 w11 w.heap.size (fun k_ => ((fun _ => True)) k_ ∧ ¬ ((fun k_ => some k_ = (v282 : Value).ownBlock)) k_) (.slice (some ⟨go10, 0, none⟩) x3_1.length co10) x3_1 from (by (with_reducible repeat first | apply ks1_ | apply ks2_ | apply ks3_); exact Kd.S_mono HO_3.out (fun k_ hk => ⟨trivial, fun e_ => hk e_⟩))); obtain ⟨oki12, ce12, hcl12, hM12, hcc12, hfr12, hoki12, hH12⟩ := Kd.S_elem HX12.out [] (x4_1 : Int) (of_decide_eq_true as_) (by have h_ : (x4_1 : Int) < ((x3_1.length : Int) : Int) := of_decide_eq_true as_; first | exact h_ | (have e_ := (Kd.S_reads' HO_3.out).1; omega) | simpa using h_); obtain ⟨ve12_0, rfl, ge12_0⟩ := hM12; have HP12 := Kd.S_seg hH12 (of_decide_eq_true as_) (by have h_ : (x4_1 : Int) < ((x3_1.length : Int) : Int) := of_decide_eq_true as_; first | exact h_ | (have e_ := (Kd.S_reads' HO_3.out).1; omega) | simpa using h_) (seg := [v282]) (j := 0) (show 1 ≤ 1 from by decide) (x' := t281) (Kd.M_row (Kd.R_mono (Kd.R_tight rfl (Kd.R_mono (ok' := fun k_ => ((fun _ => True)) k_ ∧ k_ ≠ go10) (Kd.R_apart' (HO283.out) (Kd.S_typed HO_3.out) (by decide)) (fun k_ hk => ⟨trivial, fun e_ => (hk.2) (by rw [e_]; rfl)⟩))) (fun _ h_ => Or.inr (h_)))) (fun _ hk => hk) (fun k_ hk_ => ((Kd.R_mono (ok' := fun k_ => ((fun _ => True)) k_ ∧ k_ ≠ go10) (Kd.R_apart' (HO283.out) (Kd.S_typed HO_3.out) (by decide)) (fun k_ hk => ⟨trivial, fun e_ => (hk.2) (by rw [e_]; rfl)⟩))).1 k_ hk_.symm); have hx12_0 := hcc12 0 _ rfl; (try simp only [show ((Kd.slice 5 (Kd.int .u8))).sz = 1 from rfl, Nat.mul_one, Nat.add_zero] at hx12_0); have hf12_0 := hfr12 0; (try simp only [show ((Kd.slice 5 (Kd.int .u8))).sz = 1 from rfl, Nat.mul_one, Nat.add_zero] at hf12_0); clear hcl12 hcc12 hfr12 hoki12 hH12; (try clear hM12); (try simp only [show ((Kd.slice 5 (Kd.int .u8))).sz = 1 from rfl, Nat.mul_one, Nat.add_zero] at HP12)) | ((with_reducible refine gate_store (t := 29) (p := 21) rfl ?_); refine store_event (t := 29) (p := 21) (v := ?vo_w13) (w1 := (w11.setCell ⟨go10, (x4_1 : Int).toNat, none⟩ (v282))) ?hg ?ho ?hn ?hr ?_; (case ho => rfl); (case hg => rfl); (case hn => rfl); (case hr => first | (go_simp; done) | (go_simp; rfl) | (obtain ⟨A_, c_, hv_⟩ := Kd.R_slice HO283.out; subst hv_; first | (go_simp; done) | (go_simp; rfl)) | (obtain ⟨A_, c_, hv_⟩ := Kd.S_slice HO283.out; subst hv_; first | (go_simp; done) | (go_simp; rfl))); intro w13 hw; have hg : w11.grownBy w13 (some go10) := (by rw [hw]; exact HP12.2); have hp_ : Kd.S (Kd.slice 5 (Kd.int .u8)) 29 w13 w.heap.size (fun _ => True) (.slice (some ⟨go10, 0, none⟩) x3_1.length co10) y284 := (by rw [hw, Ny284.out]; exact HP12.1); clear HP12; replace HO_3 := Aside0.mk (hp_); replace HB := Aside0.mk ((by rw [hw]; exact below_set (HB.out) GB10.out : Below w.heap.size w w13)); clear HO283; clear hg hw hp_))
        go_roundg k1
        case measure => have := HK1.out; omega
        case rel => exact ⟨(y284), (wrap64 (x4_1 + 1)), (by first | rfl | (simp; done) | (simp [*]; done)), H', ⟨by have := HK1.out; omega⟩, ⟨by (with_reducible repeat first | apply ks1_ | apply ks2_ | apply ks3_); exact HO_3.out⟩, ⟨by repeat (first | (with_reducible first | exact HB.out | apply below_alloc | apply pw_below_drewN | apply below_drew1) | exact HB.out)⟩⟩
       ·rw [if_neg c9] at H
        exact absurd H (by simp)
      ·rw [if_neg c7] at H
       exact absurd H (by simp)
     ·rw [if_neg c6] at H
      have c6b0 : decide (x4_1 < (l0.length : Int)) = false := decide_eq_false c6
      clear c6
      obtain rfl := Option.some.inj H
      go_wp2
      go_ret
      exact ⟨_, er_, by (with_reducible repeat first | apply ks1_ | apply ks2_ | apply ks3_); exact HO_3.out, by repeat (first | (with_reducible first | exact HB.out | apply below_alloc | apply pw_below_drewN | apply below_drew1) | exact HB.out)⟩
  ·rw [if_neg c3] at H
   exact absurd H (by simp)
 ·rw [if_neg c2] at H
  exact absurd H (by simp)
end Go.Proofs.Ytmkcbbbknbahgaa.P
namespace Go.Proofs.Ytmkcbbbknbahgaa.P
open Go.RowKit Go.Proofs.YtmkcbbbknbahgaaW.PrintWords Go.Proofs.YtmkcbbbknbahgaaW.PrintLast Go.Proofs.YtmkcbbbknbahgaaW.PrintMore
attribute [local go_sem] max2_int min2_int max_two min_two max_three min_three max_four min_four   -- for this text's walks alone
set_option linter.unusedVariables false
set_option linter.unusedSimpArgs false

def laws_toMemory.f (k : Nat) (l0_0 : List (List Int)) : Option ((List (List Int))) := (laws_toByteSS.f k l0_0).bind fun t288 => (some t288)

set_option maxHeartbeats 8000000 in
set_option maxRecDepth 100000 in
theorem laws_toMemory.calls (k : Nat) (A0_0 : Option Addr) (c0_0 : Nat) (l0_0 : List (List Int)) (r : List (List Int)) (w : World) (hr0_0 : Kd.C (Kd.slice 5 (Kd.int .u8)) w A0_0 l0_0.length l0_0) (hc0_0 : l0_0.length ≤ c0_0) (h : laws_toMemory.f k l0_0 = some r) :
  Calls Try.prog 58 #[.agg #[.slice A0_0 l0_0.length c0_0]] w fun e w' => ∃ v0_ : Value, e = .returned (.agg #[v0_]) ∧ Kd.S (Kd.slice 5 (Kd.int .u8)) 29 w' w.heap.size (fun _ => True) v0_ r ∧ Below w.heap.size w w' := by
 have hu24 := Try.underlying24
 have hu31 := Try.underlying31
 have HR0_0 := Aside0.mk hr0_0
 have HC0_0 := Aside0.mk hc0_0
 clear hr0_0 hc0_0
 have HB := Aside0.mk (Below.refl w.heap.size w)
 have H : ((laws_toByteSS.f k l0_0).bind fun t288 => (some t288)) = some r := h
 clear h
 replace H := Option.bind_eq_some_iff.mp H
 obtain ⟨t288, A20, H⟩ := H
 replace H : (some t288) = some r := H
 have A2 := Aside0.mk A20
 clear A20
 obtain rfl := Option.some.inj H
 go_enter Try.func58, Try.ntmps58
 go_wp2_with (first | ((with_reducible refine gate_dst (N := 1) rfl ?_); refine box_event ?hg (N := 1) ?hd (cs := #[.slice A0_0 l0_0.length c0_0]) (t := 24) ?hr ?_; (case hd => rfl); (case hg => rfl); (case hr => exact gs_); intro gb285 hg w3 hbox hb; have BK285 := Aside0.mk (hbox); have GW285 := gE_ HB hg; have GE285 := gE_ HB hg; replace HB := Aside0.mk (below_step (by repeat (first | (with_reducible first | exact HB.out | apply ba_ | apply bn_ | apply bd_) | exact HB.out)) hb); clear hb hbox hg) | ((with_reducible refine gate_dst (N := 2) rfl ?_); refine box_event ?hg (N := 2) ?hd (cs := #[.slice none 0 0]) (t := 31) ?hr ?_; (case hd => rfl); (case hg => rfl); (case hr => exact gs_); intro gb286 hg w4 hbox hb; have BK286 := Aside0.mk (hbox); have GW286 := gE_ HB hg; have GE286 := gE_ HB hg; replace HB := Aside0.mk (below_step (by repeat (first | (with_reducible first | exact HB.out | apply ba_ | apply bn_ | apply bd_ | refine bset_ ?_ (by assumption)) | exact HB.out)) hb); have NB285_286 := nB_ BK285 hg; have NB286_285 := nA_ BK285 hg; replace BK285 := bB_ BK285 hb; clear hb hbox hg) | ((with_reducible refine gate_dst (N := 3) rfl ?_); refine box_event ?hg (N := 3) ?hd (cs := #[.slice none 0 0]) (t := 31) ?hr ?_; (case hd => rfl); (case hg => rfl); (case hr => exact gs_); intro gb287 hg w5 hbox hb; have BK287 := Aside0.mk (hbox); have GW287 := gE_ HB hg; have GE287 := gE_ HB hg; replace HB := Aside0.mk (below_step (by repeat (first | (with_reducible first | exact HB.out | apply ba_ | apply bn_ | apply bd_ | refine bset_ ?_ (by assumption)) | exact HB.out)) hb); have NB285_287 := nB_ BK285 hg; have NB287_285 := nA_ BK285 hg; replace BK285 := bB_ BK285 hb; have NB286_287 := nB_ BK286 hg; have NB287_286 := nA_ BK286 hg; replace BK286 := bB_ BK286 hb; clear hb hbox hg; have hnb6 := NB285_286.out; have hnc6 := NB286_285.out; have hnb7 := NB285_287.out; have hnc7 := NB287_285.out; obtain ⟨hcz8_0, hfz8_0⟩ := zc1_ BK285) | ((with_reducible refine gate_callee (f := 120) rfl ?_); refine goesL_ (some 6) rfl rfl Try.func120 (by kernel_rfl) rfl #[.slice A0_0 l0_0.length c0_0] rfl ar_ ?_; (with_reducible refine (laws_toByteSS.calls k _ _ l0_0 t288 _ ?side1 ?side2 A2.out).mono ?_); (case side1 => exact cS_ (Kd.C_below HR0_0.out HB.out)); (case side2 => exact HC0_0.out); rintro e w9 ⟨v289, rfl, ho0, hb⟩; refine ⟨_, rfl, ?_⟩; have HO290 := Aside0.mk (sL_ ho0 HB); replace BK285 := bB_ BK285 hb; replace BK286 := bB_ BK286 hb; replace BK287 := bB_ BK287 hb; replace HB := Aside0.mk (below_step (by repeat (first | (with_reducible first | exact HB.out | apply ba_ | apply bn_ | apply bd_ | refine bset_ ?_ (by assumption)) | exact HB.out)) hb); (try clear hb); (try clear hb2); (try clear hk); (try clear hi); (try clear ho0); obtain ⟨Ao10, co10, eo10⟩ := Kd.S_slice HO290.out; subst eo10; have hnb11 := NB287_286.out; have hnc11 := NB286_287.out; obtain ⟨hcz12_0, hfz12_0⟩ := zc1_ BK287; obtain ⟨hcz13_0, hfz13_0⟩ := zc1_ BK286))
 refine bodyPost_ret (results_cell_row rfl _ _ gb286 31 #[.slice Ao10 t288.length co10] (0, 0) _ rfl (by exact fB_ BK286) Try.underlying31 rfl (by kernel_rfl)) rfl ?_
 exact ⟨_, er_, by (with_reducible repeat first | apply ks1_ | apply ks2_ | apply ks3_); exact Kd.S_mono (sf1_ gb286 (sf1_ gb287 (Kd.S_types (Kd.S_types HO290.out BK287.out (by decide)) BK286.out (by decide)) (fun _ hk => hk.1.2)) (fun _ hk => hk.2)) (fun _ hk => trivial), by repeat (first | (with_reducible first | exact HB.out | apply below_alloc | apply pw_below_drewN | apply below_drew1 | refine below_set ?_ GE285.out | refine below_set ?_ GE286.out | refine below_set ?_ GE287.out) | exact HB.out)⟩
end Go.Proofs.Ytmkcbbbknbahgaa.P
namespace Go.Proofs.Ytmkcbbbknbahgaa.P
open Go.RowKit Go.Proofs.YtmkcbbbknbahgaaW.PrintWords Go.Proofs.YtmkcbbbknbahgaaW.PrintLast Go.Proofs.YtmkcbbbknbahgaaW.PrintMore
attribute [local go_sem] max2_int min2_int max_two min_two max_three min_three max_four min_four   -- for this text's walks alone
set_option linter.unusedVariables false
set_option linter.unusedSimpArgs false

def laws_toWindow.f (a0_0 : Int) (a0_1 : Int) (a0_2 : Int) (a0_3 : Int) : Option (Int × Int × Int × Int) := some (a0_0, a0_1, a0_2, a0_3)

set_option maxHeartbeats 8000000 in
set_option maxRecDepth 100000 in
theorem laws_toWindow.calls (a0_0 : Int) (a0_1 : Int) (a0_2 : Int) (a0_3 : Int) (r1 : Int) (r2 : Int) (r3 : Int) (r4 : Int) (w : World) (h : laws_toWindow.f a0_0 a0_1 a0_2 a0_3 = some (r1, r2, r3, r4)) :
  Calls Try.prog 85 #[.agg #[.int .i64 a0_0, .int .i64 a0_1, .int .i64 a0_2, .int .i64 a0_3]] w fun e w' => e = .returned (.agg #[.int .i64 r1, .int .i64 r2, .int .i64 r3, .int .i64 r4]) ∧ Below w.heap.size w w' := by
 have hu26 := Try.underlying26
 have hu32 := Try.underlying32
 have HB := Aside0.mk (Below.refl w.heap.size w)
 have H : (some (a0_0, a0_1, a0_2, a0_3)) = some (r1, r2, r3, r4) := h
 clear h
 simp only [Option.some.injEq, Prod.mk.injEq] at H
 obtain ⟨rfl, rfl, rfl, rfl⟩ := H
 go_enter Try.func85, Try.ntmps85
 go_wp2_with (first | ((with_reducible refine gate_dst (N := 1) rfl ?_); refine box_event ?hg (N := 1) ?hd (cs := #[.int .i64 a0_0, .int .i64 a0_1, .int .i64 a0_2, .int .i64 a0_3]) (t := 26) ?hr ?_; (case hd => rfl); (case hg => rfl); (case hr => exact gs_); intro gb291 hg w2 hbox hb; have BK291 := Aside0.mk (hbox); have GW291 := gE_ HB hg; have GE291 := gE_ HB hg; replace HB := Aside0.mk (below_step (by repeat (first | (with_reducible first | exact HB.out | apply ba_ | apply bn_ | apply bd_) | exact HB.out)) hb); clear hb hbox hg) | ((with_reducible refine gate_dst (N := 2) rfl ?_); refine box_event ?hg (N := 2) ?hd (cs := #[.int .i64 0, .int .i64 0, .int .i64 0, .int .i64 0]) (t := 32) ?hr ?_; (case hd => rfl); (case hg => rfl); (case hr => exact gs_); intro gb292 hg w3 hbox hb; have BK292 := Aside0.mk (hbox); have GW292 := gE_ HB hg; have GE292 := gE_ HB hg; replace HB := Aside0.mk (below_step (by repeat (first | (with_reducible first | exact HB.out | apply ba_ | apply bn_ | apply bd_ | refine bset_ ?_ (by assumption)) | exact HB.out)) hb); have NB291_292 := nB_ BK291 hg; have NB292_291 := nA_ BK291 hg; replace BK291 := bB_ BK291 hb; clear hb hbox hg) | ((with_reducible refine gate_dst (N := 3) rfl ?_); refine box_event ?hg (N := 3) ?hd (cs := #[.int .i64 0, .int .i64 0, .int .i64 0, .int .i64 0]) (t := 32) ?hr ?_; (case hd => rfl); (case hg => rfl); (case hr => exact gs_); intro gb293 hg w4 hbox hb; have BK293 := Aside0.mk (hbox); have GW293 := gE_ HB hg; have GE293 := gE_ HB hg; replace HB := Aside0.mk (below_step (by repeat (first | (with_reducible first | exact HB.out | apply ba_ | apply bn_ | apply bd_ | refine bset_ ?_ (by assumption)) | exact HB.out)) hb); have NB291_293 := nB_ BK291 hg; have NB293_291 := nA_ BK291 hg; replace BK291 := bB_ BK291 hb; have NB292_293 := nB_ BK292 hg; have NB293_292 := nA_ BK292 hg; replace BK292 := bB_ BK292 hb; clear hb hbox hg; have hnb5 := NB291_292.out; have hnc5 := NB292_291.out; have hnb6 := NB291_293.out; have hnc6 := NB293_291.out; obtain ⟨hcz7_0, hcz7_1, hcz7_2, hcz7_3, hfz7_0, hfz7_1, hfz7_2, hfz7_3⟩ := zc4_ BK291; have hnb8 := NB293_292.out; have hnc8 := NB292_293.out; obtain ⟨hcz9_0, hcz9_1, hcz9_2, hcz9_3, hfz9_0, hfz9_1, hfz9_2, hfz9_3⟩ := zc4_ BK293; obtain ⟨hcz10_0, hcz10_1, hcz10_2, hcz10_3, hfz10_0, hfz10_1, hfz10_2, hfz10_3⟩ := zc4_ BK292))
 refine bodyPost_ret (results_cell_row rfl _ _ gb292 32 #[.int .i64 a0_0, .int .i64 a0_1, .int .i64 a0_2, .int .i64 a0_3] (0, 0) _ rfl (by exact fB_ BK292) Try.underlying32 rfl (by kernel_rfl)) rfl ?_
 exact ⟨er_, by repeat (first | (with_reducible first | exact HB.out | apply below_alloc | apply pw_below_drewN | apply below_drew1 | refine below_set ?_ GE291.out | refine below_set ?_ GE292.out | refine below_set ?_ GE293.out) | exact HB.out)⟩
end Go.Proofs.Ytmkcbbbknbahgaa.P
namespace Go.Proofs.Ytmkcbbbknbahgaa.P
open Go.RowKit Go.Proofs.YtmkcbbbknbahgaaW.PrintWords Go.Proofs.YtmkcbbbknbahgaaW.PrintLast Go.Proofs.YtmkcbbbknbahgaaW.PrintMore
attribute [local go_sem] max2_int min2_int max_two min_two max_three min_three max_four min_four   -- for this text's walks alone
set_option linter.unusedVariables false
set_option linter.unusedSimpArgs false

def laws_toGap.f (k : Nat) (l0_0 : List (List Int)) (a0_1 : Int) (a0_2 : Int) (a0_3 : Int) (a0_4 : Int) (a0_5 : Int) (a0_6 : Int) : Option ((List (List Int)) × Int × Int × Int × Int × Int × Int) := (laws_toMemory.f k l0_0).bind fun t297 => ((laws_toWindow.f a0_1 a0_2 a0_3 a0_4).bind fun bt300 => (some (t297, bt300.1, bt300.2.1, bt300.2.2.1, bt300.2.2.2, a0_5, a0_6)))

set_option maxHeartbeats 8000000 in
set_option maxRecDepth 100000 in
theorem laws_toGap.calls (k : Nat) (A0_0 : Option Addr) (c0_0 : Nat) (l0_0 : List (List Int)) (a0_1 : Int) (a0_2 : Int) (a0_3 : Int) (a0_4 : Int) (a0_5 : Int) (a0_6 : Int) (r1 : List (List Int)) (r2 : Int) (r3 : Int) (r4 : Int) (r5 : Int) (r6 : Int) (r7 : Int) (w : World) (hr0_0 : Kd.C (Kd.slice 5 (Kd.int .u8)) w A0_0 l0_0.length l0_0) (hc0_0 : l0_0.length ≤ c0_0) (h : laws_toGap.f k l0_0 a0_1 a0_2 a0_3 a0_4 a0_5 a0_6 = some (r1, r2, r3, r4, r5, r6, r7)) :
  Calls Try.prog 15 #[.agg #[.slice A0_0 l0_0.length c0_0, .int .i64 a0_1, .int .i64 a0_2, .int .i64 a0_3, .int .i64 a0_4, .int .i64 a0_5, .int .i64 a0_6]] w fun e w' => ∃ v0_ : Value, e = .returned (.agg #[v0_, .int .i64 r2, .int .i64 r3, .int .i64 r4, .int .i64 r5, .int .i64 r6, .int .i64 r7]) ∧ Kd.S (Kd.slice 5 (Kd.int .u8)) 29 w' w.heap.size (fun _ => True) v0_ r1 ∧ Below w.heap.size w w' := by
 have hu28 := Try.underlying28
 have hu34 := Try.underlying34
 have hu24 := Try.underlying24
 have hu31 := Try.underlying31
 have hu26 := Try.underlying26
 have hu32 := Try.underlying32
 have HR0_0 := Aside0.mk hr0_0
 have HC0_0 := Aside0.mk hc0_0
 clear hr0_0 hc0_0
 have HB := Aside0.mk (Below.refl w.heap.size w)
 have H : ((laws_toMemory.f k l0_0).bind fun t297 => ((laws_toWindow.f a0_1 a0_2 a0_3 a0_4).bind fun bt300 => (some (t297, bt300.1, bt300.2.1, bt300.2.2.1, bt300.2.2.2, a0_5, a0_6)))) = some (r1, r2, r3, r4, r5, r6, r7) := h
 clear h
 replace H := Option.bind_eq_some_iff.mp H
 obtain ⟨t297, A20, H⟩ := H
 replace H : ((laws_toWindow.f a0_1 a0_2 a0_3 a0_4).bind fun bt300 => (some (t297, bt300.1, bt300.2.1, bt300.2.2.1, bt300.2.2.2, a0_5, a0_6))) = some (r1, r2, r3, r4, r5, r6, r7) := H
 have A2 := Aside0.mk A20
 clear A20
 replace H := Option.bind_eq_some_iff.mp H
 obtain ⟨⟨t300, t301, t302, t303⟩, A30, H⟩ := H
 replace H : (some (t297, t300, t301, t302, t303, a0_5, a0_6)) = some (r1, r2, r3, r4, r5, r6, r7) := H
 have A3 := Aside0.mk A30
 clear A30
 simp only [Option.some.injEq, Prod.mk.injEq] at H
 obtain ⟨rfl, rfl, rfl, rfl, rfl, rfl, rfl⟩ := H
 go_enter Try.func15, Try.ntmps15
 go_wp2_with (first | ((with_reducible refine gate_dst (N := 1) rfl ?_); refine box_event ?hg (N := 1) ?hd (cs := #[.slice A0_0 l0_0.length c0_0, .int .i64 a0_1, .int .i64 a0_2, .int .i64 a0_3, .int .i64 a0_4, .int .i64 a0_5, .int .i64 a0_6]) (t := 28) ?hr ?_; (case hd => rfl); (case hg => rfl); (case hr => exact gs_); intro gb294 hg w4 hbox hb; have BK294 := Aside0.mk (hbox); have GW294 := gE_ HB hg; have GE294 := gE_ HB hg; replace HB := Aside0.mk (below_step (by repeat (first | (with_reducible first | exact HB.out | apply ba_ | apply bn_ | apply bd_) | exact HB.out)) hb); clear hb hbox hg) | ((with_reducible refine gate_dst (N := 2) rfl ?_); refine box_event ?hg (N := 2) ?hd (cs := #[.slice none 0 0, .int .i64 0, .int .i64 0, .int .i64 0, .int .i64 0, .int .i64 0, .int .i64 0]) (t := 34) ?hr ?_; (case hd => rfl); (case hg => rfl); (case hr => exact gs_); intro gb295 hg w5 hbox hb; have BK295 := Aside0.mk (hbox); have GW295 := gE_ HB hg; have GE295 := gE_ HB hg; replace HB := Aside0.mk (below_step (by repeat (first | (with_reducible first | exact HB.out | apply ba_ | apply bn_ | apply bd_ | refine bset_ ?_ (by assumption)) | exact HB.out)) hb); have NB294_295 := nB_ BK294 hg; have NB295_294 := nA_ BK294 hg; replace BK294 := bB_ BK294 hb; clear hb hbox hg) | ((with_reducible refine gate_dst (N := 3) rfl ?_); refine box_event ?hg (N := 3) ?hd (cs := #[.slice none 0 0, .int .i64 0, .int .i64 0, .int .i64 0, .int .i64 0, .int .i64 0, .int .i64 0]) (t := 34) ?hr ?_; (case hd => rfl); (case hg => rfl); (case hr => exact gs_); intro gb296 hg w6 hbox hb; have BK296 := Aside0.mk (hbox); have GW296 := gE_ HB hg; have GE296 := gE_ HB hg; replace HB := Aside0.mk (below_step (by repeat (first | (with_reducible first | exact HB.out | apply ba_ | apply bn_ | apply bd_ | refine bset_ ?_ (by assumption)) | exact HB.out)) hb); have NB294_296 := nB_ BK294 hg; have NB296_294 := nA_ BK294 hg; replace BK294 := bB_ BK294 hb; have NB295_296 := nB_ BK295 hg; have NB296_295 := nA_ BK295 hg; replace BK295 := bB_ BK295 hb; clear hb hbox hg; have hnb7 := NB294_295.out; have hnc7 := NB295_294.out; have hnb8 := NB294_296.out; have hnc8 := NB296_294.out; obtain ⟨hcz9_0, hcz9_1, hcz9_2, hcz9_3, hcz9_4, hcz9_5, hcz9_6, hfz9_0, hfz9_1, hfz9_2, hfz9_3, hfz9_4, hfz9_5, hfz9_6⟩ := zc7_ BK294) | ((with_reducible refine gate_callee (f := 58) rfl ?_); refine goesL_ (some 6) rfl rfl Try.func58 (by kernel_rfl) rfl #[.agg #[.slice A0_0 l0_0.length c0_0]] rfl ar_ ?_; (with_reducible refine (laws_toMemory.calls k _ _ l0_0 t297 _ ?side1 ?side2 A2.out).mono ?_); (case side1 => exact cS_ (Kd.C_below HR0_0.out HB.out)); (case side2 => exact HC0_0.out); rintro e w10 ⟨v298, rfl, ho0, hb⟩; refine ⟨_, rfl, ?_⟩; have HO299 := Aside0.mk (sL_ ho0 HB); replace BK294 := bB_ BK294 hb; replace BK295 := bB_ BK295 hb; replace BK296 := bB_ BK296 hb; replace HB := Aside0.mk (below_step (by repeat (first | (with_reducible first | exact HB.out | apply ba_ | apply bn_ | apply bd_ | refine bset_ ?_ (by assumption)) | exact HB.out)) hb); (try clear hb); (try clear hb2); (try clear hk); (try clear hi); (try clear ho0); obtain ⟨Ao11, co11, eo11⟩ := Kd.S_slice HO299.out; subst eo11; have hnb12 := NB296_295.out; have hnc12 := NB295_296.out; obtain ⟨hcz13_0, hcz13_1, hcz13_2, hcz13_3, hcz13_4, hcz13_5, hcz13_6, hfz13_0, hfz13_1, hfz13_2, hfz13_3, hfz13_4, hfz13_5, hfz13_6⟩ := zc7_ BK296; obtain ⟨hcz14_0, hcz14_1, hcz14_2, hcz14_3, hcz14_4, hcz14_5, hcz14_6, hfz14_0, hfz14_1, hfz14_2, hfz14_3, hfz14_4, hfz14_5, hfz14_6⟩ := zc7_ BK294) | ((with_reducible refine gate_callee (f := 85) rfl ?_); refine goesL_ (some 10) rfl rfl Try.func85 (by kernel_rfl) rfl #[.agg #[.int .i64 a0_1, .int .i64 a0_2, .int .i64 a0_3, .int .i64 a0_4]] rfl ar_ ?_; (with_reducible refine (laws_toWindow.calls a0_1 a0_2 a0_3 a0_4 t300 t301 t302 t303 _ A3.out).mono ?_); rintro e w15 ⟨rfl, hb⟩; refine ⟨_, rfl, ?_⟩; replace HO299 := Aside0.mk (Kd.S_below (by (with_reducible repeat first | apply ks1_ | apply ks2_ | apply ks3_); exact (Kd.S_mono (sf1_ gb296 (Kd.S_types HO299.out BK296.out (by decide)) (fun _ hk => hk.2)) (fun _ h_ => h_.1))) hb); replace BK294 := Aside0.mk (blk_below (g := gb294) (o := .cells #[.slice A0_0 l0_0.length c0_0, .int .i64 a0_1, .int .i64 a0_2, .int .i64 a0_3, .int .i64 a0_4, .int .i64 a0_5, .int .i64 a0_6] 28 (0, 0)) (by exact fB_ BK294) hb); replace BK295 := Aside0.mk (blk_below (g := gb295) (o := .cells #[.slice none 0 0, .int .i64 0, .int .i64 0, .int .i64 0, .int .i64 0, .int .i64 0, .int .i64 0] 34 (0, 0)) (by exact fB_ BK295) hb); replace BK296 := Aside0.mk (blk_below (g := gb296) (o := .cells #[.slice Ao11 t297.length co11, .int .i64 0, .int .i64 0, .int .i64 0, .int .i64 0, .int .i64 0, .int .i64 0] 34 (0, 0)) (by (with_reducible repeat first | apply kb1_ | apply kb2_ | apply kb3_); refine blk_put (cs := #[.slice none 0 0, .int .i64 0, .int .i64 0, .int .i64 0, .int .i64 0, .int .i64 0, .int .i64 0]) ?_ 0 _ rfl; (with_reducible repeat first | apply kb1_ | apply kb2_ | apply kb3_); exact BK296.out) hb); replace HB := Aside0.mk (below_step (by repeat (first | (with_reducible first | exact HB.out | apply ba_ | apply bn_ | apply bd_ | refine bset_ ?_ (by assumption)) | exact HB.out)) hb); (try clear hb); (try clear hb2); (try clear hk); (try clear hi); obtain ⟨hcz16_0, hcz16_1, hcz16_2, hcz16_3, hcz16_4, hcz16_5, hcz16_6, hfz16_0, hfz16_1, hfz16_2, hfz16_3, hfz16_4, hfz16_5, hfz16_6⟩ := zc7_ BK296; obtain ⟨hcz17_0, hcz17_1, hcz17_2, hcz17_3, hcz17_4, hcz17_5, hcz17_6, hfz17_0, hfz17_1, hfz17_2, hfz17_3, hfz17_4, hfz17_5, hfz17_6⟩ := zc7_ BK294; obtain ⟨hcz18_0, hcz18_1, hcz18_2, hcz18_3, hcz18_4, hcz18_5, hcz18_6, hfz18_0, hfz18_1, hfz18_2, hfz18_3, hfz18_4, hfz18_5, hfz18_6⟩ := zc7_ BK295))
 refine bodyPost_ret (results_cell_row rfl _ _ gb295 34 #[.slice Ao11 t297.length co11, .int .i64 t300, .int .i64 t301, .int .i64 t302, .int .i64 t303, .int .i64 a0_5, .int .i64 a0_6] (0, 0) _ rfl (by exact fB_ BK295) Try.underlying34 rfl (by kernel_rfl)) rfl ?_
 exact ⟨_, er_, by (with_reducible repeat first | apply ks1_ | apply ks2_ | apply ks3_); exact Kd.S_mono (sf7_ gb295 (Kd.S_far (p := ⟨gb296, 6, none⟩) (Kd.S_far (p := ⟨gb296, 5, none⟩) (Kd.S_far (p := ⟨gb296, 4, none⟩) (Kd.S_far (p := ⟨gb296, 3, none⟩) (Kd.S_far (p := ⟨gb296, 2, none⟩) (Kd.S_far (p := ⟨gb296, 1, none⟩) (Kd.S_types (Kd.S_types HO299.out BK296.out (by decide)) BK295.out (by decide)) (fun _ hk => hk.1.2) (.int .i64 t300)) (fun _ hk => hk.1.2) (.int .i64 t301)) (fun _ hk => hk.1.2) (.int .i64 t302)) (fun _ hk => hk.1.2) (.int .i64 t303)) (fun _ hk => hk.1.2) (.int .i64 a0_5)) (fun _ hk => hk.1.2) (.int .i64 a0_6)) (fun _ hk => hk.2)) (fun _ hk => trivial), by repeat (first | (with_reducible first | exact HB.out | apply below_alloc | apply pw_below_drewN | apply below_drew1 | refine below_set ?_ GE294.out | refine below_set ?_ GE295.out | refine below_set ?_ GE296.out) | exact HB.out)⟩
end Go.Proofs.Ytmkcbbbknbahgaa.P
namespace Go.Proofs.Ytmkcbbbknbahgaa.P
open Go.RowKit Go.Proofs.YtmkcbbbknbahgaaW.PrintWords Go.Proofs.YtmkcbbbknbahgaaW.PrintLast Go.Proofs.YtmkcbbbknbahgaaW.PrintMore
attribute [local go_sem] max2_int min2_int max_two min_two max_three min_three max_four min_four   -- for this text's walks alone
set_option linter.unusedVariables false
set_option linter.unusedSimpArgs false

def laws_eqWindow.f (a0_0 : Int) (a0_1 : Int) (a0_2 : Int) (a0_3 : Int) (a1_0 : Int) (a1_1 : Int) (a1_2 : Int) (a1_3 : Int) : Option (Bool) := if a0_0 = a1_0 then (if a0_1 = a1_1 then (if a0_2 = a1_2 then (if a0_3 = a1_3 then (some true) else (some false)) else (some false)) else (some false)) else (some false)

set_option maxHeartbeats 8000000 in
set_option maxRecDepth 100000 in
theorem laws_eqWindow.calls (a0_0 : Int) (a0_1 : Int) (a0_2 : Int) (a0_3 : Int) (a1_0 : Int) (a1_1 : Int) (a1_2 : Int) (a1_3 : Int) (r : Bool) (w : World) (h : laws_eqWindow.f a0_0 a0_1 a0_2 a0_3 a1_0 a1_1 a1_2 a1_3 = some r) :
  Calls Try.prog 41 #[.agg #[.int .i64 a0_0, .int .i64 a0_1, .int .i64 a0_2, .int .i64 a0_3], .agg #[.int .i64 a1_0, .int .i64 a1_1, .int .i64 a1_2, .int .i64 a1_3]] w fun e w' => e = .returned (.bool r) ∧ Below w.heap.size w w' := by
 have hu32 := Try.underlying32
 have HB := Aside0.mk (Below.refl w.heap.size w)
 have H : (if a0_0 = a1_0 then (if a0_1 = a1_1 then (if a0_2 = a1_2 then (if a0_3 = a1_3 then (some true) else (some false)) else (some false)) else (some false)) else (some false)) = some r := h
 clear h
 by_cases c3 : a0_0 = a1_0
 ·rw [if_pos c3] at H
  have c3b0 : (a0_0 == a1_0) = true := beq_iff_eq.mpr c3
  have c3b1 : (a0_0 != a1_0) = false := bne_eq_false_iff_eq.mpr c3
  clear c3
  by_cases c4 : a0_1 = a1_1
  ·rw [if_pos c4] at H
   have c4b0 : (a0_1 == a1_1) = true := beq_iff_eq.mpr c4
   have c4b1 : (a0_1 != a1_1) = false := bne_eq_false_iff_eq.mpr c4
   clear c4
   by_cases c5 : a0_2 = a1_2
   ·rw [if_pos c5] at H
    have c5b0 : (a0_2 == a1_2) = true := beq_iff_eq.mpr c5
    have c5b1 : (a0_2 != a1_2) = false := bne_eq_false_iff_eq.mpr c5
    clear c5
    by_cases c6 : a0_3 = a1_3
    ·rw [if_pos c6] at H
     have c6b0 : (a0_3 == a1_3) = true := beq_iff_eq.mpr c6
     have c6b1 : (a0_3 != a1_3) = false := bne_eq_false_iff_eq.mpr c6
     clear c6
     obtain rfl := Option.some.inj H
     go_enter Try.func41, Try.ntmps41
     go_wp2_with (first | ((with_reducible refine gate_dst (N := 2) rfl ?_); refine box_event ?hg (N := 2) ?hd (cs := #[.int .i64 a0_0, .int .i64 a0_1, .int .i64 a0_2, .int .i64 a0_3]) (t := 32) ?hr ?_; (case hd => rfl); (case hg => rfl); (case hr => exact gs_); intro gb344 hg w7 hbox hb; have BK344 := Aside0.mk (hbox); have GW344 := gE_ HB hg; have GE344 := gE_ HB hg; replace HB := Aside0.mk (below_step (by repeat (first | (with_reducible first | exact HB.out | apply ba_ | apply bn_ | apply bd_) | exact HB.out)) hb); clear hb hbox hg) | ((with_reducible refine gate_dst (N := 3) rfl ?_); refine box_event ?hg (N := 3) ?hd (cs := #[.int .i64 a1_0, .int .i64 a1_1, .int .i64 a1_2, .int .i64 a1_3]) (t := 32) ?hr ?_; (case hd => rfl); (case hg => rfl); (case hr => exact gs_); intro gb345 hg w8 hbox hb; have BK345 := Aside0.mk (hbox); have GW345 := gE_ HB hg; have GE345 := gE_ HB hg; replace HB := Aside0.mk (below_step (by repeat (first | (with_reducible first | exact HB.out | apply ba_ | apply bn_ | apply bd_ | refine bset_ ?_ (by assumption)) | exact HB.out)) hb); have NB344_345 := nB_ BK344 hg; have NB345_344 := nA_ BK344 hg; replace BK344 := bB_ BK344 hb; clear hb hbox hg; have hnb9 := NB344_345.out; have hnc9 := NB345_344.out; obtain ⟨hcz10_0, hcz10_1, hcz10_2, hcz10_3, hfz10_0, hfz10_1, hfz10_2, hfz10_3⟩ := zc4_ BK344; obtain ⟨hcz11_0, hcz11_1, hcz11_2, hcz11_3, hfz11_0, hfz11_1, hfz11_2, hfz11_3⟩ := zc4_ BK345))
     go_ret
     exact ⟨er_, by repeat (first | (with_reducible first | exact HB.out | apply below_alloc | apply pw_below_drewN | apply below_drew1 | refine below_set ?_ GE344.out | refine below_set ?_ GE345.out) | exact HB.out)⟩
    ·rw [if_neg c6] at H
     have c6b0 : (a0_3 == a1_3) = false := beq_eq_false_iff_ne.mpr c6
     have c6b1 : (a0_3 != a1_3) = true := bne_iff_ne.mpr c6
     obtain rfl := Option.some.inj H
     go_enter Try.func41, Try.ntmps41
     go_wp2_with (first | ((with_reducible refine gate_dst (N := 2) rfl ?_); refine box_event ?hg (N := 2) ?hd (cs := #[.int .i64 a0_0, .int .i64 a0_1, .int .i64 a0_2, .int .i64 a0_3]) (t := 32) ?hr ?_; (case hd => rfl); (case hg => rfl); (case hr => exact gs_); intro gb344 hg w12 hbox hb; have BK344 := Aside0.mk (hbox); have GW344 := gE_ HB hg; have GE344 := gE_ HB hg; replace HB := Aside0.mk (below_step (by repeat (first | (with_reducible first | exact HB.out | apply ba_ | apply bn_ | apply bd_) | exact HB.out)) hb); clear hb hbox hg) | ((with_reducible refine gate_dst (N := 3) rfl ?_); refine box_event ?hg (N := 3) ?hd (cs := #[.int .i64 a1_0, .int .i64 a1_1, .int .i64 a1_2, .int .i64 a1_3]) (t := 32) ?hr ?_; (case hd => rfl); (case hg => rfl); (case hr => exact gs_); intro gb345 hg w13 hbox hb; have BK345 := Aside0.mk (hbox); have GW345 := gE_ HB hg; have GE345 := gE_ HB hg; replace HB := Aside0.mk (below_step (by repeat (first | (with_reducible first | exact HB.out | apply ba_ | apply bn_ | apply bd_ | refine bset_ ?_ (by assumption)) | exact HB.out)) hb); have NB344_345 := nB_ BK344 hg; have NB345_344 := nA_ BK344 hg; replace BK344 := bB_ BK344 hb; clear hb hbox hg; have hnb14 := NB344_345.out; have hnc14 := NB345_344.out; obtain ⟨hcz15_0, hcz15_1, hcz15_2, hcz15_3, hfz15_0, hfz15_1, hfz15_2, hfz15_3⟩ := zc4_ BK344; obtain ⟨hcz16_0, hcz16_1, hcz16_2, hcz16_3, hfz16_0, hfz16_1, hfz16_2, hfz16_3⟩ := zc4_ BK345))
     go_ret
     exact ⟨er_, by repeat (first | (with_reducible first | exact HB.out | apply below_alloc | apply pw_below_drewN | apply below_drew1 | refine below_set ?_ GE344.out | refine below_set ?_ GE345.out) | exact HB.out)⟩
   ·rw [if_neg c5] at H
    have c5b0 : (a0_2 == a1_2) = false := beq_eq_false_iff_ne.mpr c5
    have c5b1 : (a0_2 != a1_2) = true := bne_iff_ne.mpr c5
    obtain rfl := Option.some.inj H
    go_enter Try.func41, Try.ntmps41
    go_wp2_with (first | ((with_reducible refine gate_dst (N := 2) rfl ?_); refine box_event ?hg (N := 2) ?hd (cs := #[.int .i64 a0_0, .int .i64 a0_1, .int .i64 a0_2, .int .i64 a0_3]) (t := 32) ?hr ?_; (case hd => rfl); (case hg => rfl); (case hr => exact gs_); intro gb344 hg w17 hbox hb; have BK344 := Aside0.mk (hbox); have GW344 := gE_ HB hg; have GE344 := gE_ HB hg; replace HB := Aside0.mk (below_step (by repeat (first | (with_reducible first | exact HB.out | apply ba_ | apply bn_ | apply bd_) | exact HB.out)) hb); clear hb hbox hg) | ((with_reducible refine gate_dst (N := 3) rfl ?_); refine box_event ?hg (N := 3) ?hd (cs := #[.int .i64 a1_0, .int .i64 a1_1, .int .i64 a1_2, .int .i64 a1_3]) (t := 32) ?hr ?_; (case hd => rfl); (case hg => rfl); (case hr => exact gs_); intro gb345 hg w18 hbox hb; have BK345 := Aside0.mk (hbox); have GW345 := gE_ HB hg; have GE345 := gE_ HB hg; replace HB := Aside0.mk (below_step (by repeat (first | (with_reducible first | exact HB.out | apply ba_ | apply bn_ | apply bd_ | refine bset_ ?_ (by assumption)) | exact HB.out)) hb); have NB344_345 := nB_ BK344 hg; have NB345_344 := nA_ BK344 hg; replace BK344 := bB_ BK344 hb; clear hb hbox hg; have hnb19 := NB344_345.out; have hnc19 := NB345_344.out; obtain ⟨hcz20_0, hcz20_1, hcz20_2, hcz20_3, hfz20_0, hfz20_1, hfz20_2, hfz20_3⟩ := zc4_ BK344; obtain ⟨hcz21_0, hcz21_1, hcz21_2, hcz21_3, hfz21_0, hfz21_1, hfz21_2, hfz21_3⟩ := zc4_ BK345))
    go_ret
    exact ⟨er_, by repeat (first | (with_reducible first | exact HB.out | apply below_alloc | apply pw_below_drewN | apply below_drew1 | refine below_set ?_ GE344.out | refine below_set ?_ GE345.out) | exact HB.out)⟩
  ·rw [if_neg c4] at H
   have c4b0 : (a0_1 == a1_1) = false := beq_eq_false_iff_ne.mpr c4
   have c4b1 : (a0_1 != a1_1) = true := bne_iff_ne.mpr c4
   obtain rfl := Option.some.inj H
   go_enter Try.func41, Try.ntmps41
   go_wp2_with (first | ((with_reducible refine gate_dst (N := 2) rfl ?_); refine box_event ?hg (N := 2) ?hd (cs := #[.int .i64 a0_0, .int .i64 a0_1, .int .i64 a0_2, .int .i64 a0_3]) (t := 32) ?hr ?_; (case hd => rfl); (case hg => rfl); (case hr => exact gs_); intro gb344 hg w22 hbox hb; have BK344 := Aside0.mk (hbox); have GW344 := gE_ HB hg; have GE344 := gE_ HB hg; replace HB := Aside0.mk (below_step (by repeat (first | (with_reducible first | exact HB.out | apply ba_ | apply bn_ | apply bd_) | exact HB.out)) hb); clear hb hbox hg) | ((with_reducible refine gate_dst (N := 3) rfl ?_); refine box_event ?hg (N := 3) ?hd (cs := #[.int .i64 a1_0, .int .i64 a1_1, .int .i64 a1_2, .int .i64 a1_3]) (t := 32) ?hr ?_; (case hd => rfl); (case hg => rfl); (case hr => exact gs_); intro gb345 hg w23 hbox hb; have BK345 := Aside0.mk (hbox); have GW345 := gE_ HB hg; have GE345 := gE_ HB hg; replace HB := Aside0.mk (below_step (by repeat (first | (with_reducible first | exact HB.out | apply ba_ | apply bn_ | apply bd_ | refine bset_ ?_ (by assumption)) | exact HB.out)) hb); have NB344_345 := nB_ BK344 hg; have NB345_344 := nA_ BK344 hg; replace BK344 := bB_ BK344 hb; clear hb hbox hg; have hnb24 := NB344_345.out; have hnc24 := NB345_344.out; obtain ⟨hcz25_0, hcz25_1, hcz25_2, hcz25_3, hfz25_0, hfz25_1, hfz25_2, hfz25_3⟩ := zc4_ BK344; obtain ⟨hcz26_0, hcz26_1, hcz26_2, hcz26_3, hfz26_0, hfz26_1, hfz26_2, hfz26_3⟩ := zc4_ BK345))
   go_ret
   exact ⟨er_, by repeat (first | (with_reducible first | exact HB.out | apply below_alloc | apply pw_below_drewN | apply below_drew1 | refine below_set ?_ GE344.out | refine below_set ?_ GE345.out) | exact HB.out)⟩
 ·rw [if_neg c3] at H
  have c3b0 : (a0_0 == a1_0) = false := beq_eq_false_iff_ne.mpr c3
  have c3b1 : (a0_0 != a1_0) = true := bne_iff_ne.mpr c3
  obtain rfl := Option.some.inj H
  go_enter Try.func41, Try.ntmps41
  go_wp2_with (first | ((with_reducible refine gate_dst (N := 2) rfl ?_); refine box_event ?hg (N := 2) ?hd (cs := #[.int .i64 a0_0, .int .i64 a0_1, .int .i64 a0_2, .int .i64 a0_3]) (t := 32) ?hr ?_; (case hd => rfl); (case hg => rfl); (case hr => exact gs_); intro gb344 hg w27 hbox hb; have BK344 := Aside0.mk (hbox); have GW344 := gE_ HB hg; have GE344 := gE_ HB hg; replace HB := Aside0.mk (below_step (by repeat (first | (with_reducible first | exact HB.out | apply ba_ | apply bn_ | apply bd_) | exact HB.out)) hb); clear hb hbox hg) | ((with_reducible refine gate_dst (N := 3) rfl ?_); refine box_event ?hg (N := 3) ?hd (cs := #[.int .i64 a1_0, .int .i64 a1_1, .int .i64 a1_2, .int .i64 a1_3]) (t := 32) ?hr ?_; (case hd => rfl); (case hg => rfl); (case hr => exact gs_); intro gb345 hg w28 hbox hb; have BK345 := Aside0.mk (hbox); have GW345 := gE_ HB hg; have GE345 := gE_ HB hg; replace HB := Aside0.mk (below_step (by repeat (first | (with_reducible first | exact HB.out | apply ba_ | apply bn_ | apply bd_ | refine bset_ ?_ (by assumption)) | exact HB.out)) hb); have NB344_345 := nB_ BK344 hg; have NB345_344 := nA_ BK344 hg; replace BK344 := bB_ BK344 hb; clear hb hbox hg; have hnb29 := NB344_345.out; have hnc29 := NB345_344.out; obtain ⟨hcz30_0, hcz30_1, hcz30_2, hcz30_3, hfz30_0, hfz30_1, hfz30_2, hfz30_3⟩ := zc4_ BK344; obtain ⟨hcz31_0, hcz31_1, hcz31_2, hcz31_3, hfz31_0, hfz31_1, hfz31_2, hfz31_3⟩ := zc4_ BK345))
  go_ret
  exact ⟨er_, by repeat (first | (with_reducible first | exact HB.out | apply below_alloc | apply pw_below_drewN | apply below_drew1 | refine below_set ?_ GE344.out | refine below_set ?_ GE345.out) | exact HB.out)⟩
end Go.Proofs.Ytmkcbbbknbahgaa.P
namespace Go.Proofs.Ytmkcbbbknbahgaa.P
open Go.RowKit Go.Proofs.YtmkcbbbknbahgaaW.PrintWords Go.Proofs.YtmkcbbbknbahgaaW.PrintLast Go.Proofs.YtmkcbbbknbahgaaW.PrintMore
attribute [local go_sem] max2_int min2_int max_two min_two max_three min_three max_four min_four   -- for this text's walks alone
set_option linter.unusedVariables false
set_option linter.unusedSimpArgs false

def laws_eqByteS.l0 : Nat → List Int → List Int → Int → Option (Bool)
 | 0, _, _, _ => none
 | k + 1, x0, x1, x5 => if x5 < (x0.length : Int) then (if 0 ≤ x5 then (if x5 < (x1.length : Int) then (if (rd x0 x5) = (rd x1 x5) then (laws_eqByteS.l0 k x0 x1 (wrap64 (x5 + 1))) else (some false)) else (none)) else (none)) else (some true)

def laws_eqByteS.f (k : Nat) (l0 : List Int) (l1 : List Int) : Option (Bool) := if (l0.length : Int) = (l1.length : Int) then (laws_eqByteS.l0 k l0 l1 0) else (some false)

set_option maxHeartbeats 8000000 in
set_option maxRecDepth 100000 in
theorem laws_eqByteS.calls (k : Nat) (A0 : Option Addr) (c0 : Nat) (l0 : List Int) (A1 : Option Addr) (c1 : Nat) (l1 : List Int) (r : Bool) (w : World) (hr0 : Kd.C (Kd.int .u8) w A0 l0.length l0) (hc0 : l0.length ≤ c0) (hr1 : Kd.C (Kd.int .u8) w A1 l1.length l1) (hc1 : l1.length ≤ c1) (h : laws_eqByteS.f k l0 l1 = some r) :
  Calls Try.prog 19 #[.slice A0 l0.length c0, .slice A1 l1.length c1] w fun e w' => e = .returned (.bool r) ∧ Drawn0 w w' := by
 have HR0 := Aside0.mk hr0
 have HC0 := Aside0.mk hc0
 clear hr0 hc0
 have HR1 := Aside0.mk hr1
 have HC1 := Aside0.mk hc1
 clear hr1 hc1
 have H : (if (l0.length : Int) = (l1.length : Int) then (laws_eqByteS.l0 k l0 l1 0) else (some false)) = some r := h
 clear h
 by_cases c3 : (l0.length : Int) = (l1.length : Int)
 ·rw [if_pos c3] at H
  have c3b0 : ((l0.length : Int) == (l1.length : Int)) = true := beq_iff_eq.mpr c3
  have c3b1 : ((l0.length : Int) != (l1.length : Int)) = false := bne_eq_false_iff_eq.mpr c3
  have c3b2 : (l0.length == l1.length) = true := by first | simpa using c3 | (simp at c3 ⊢; omega)
  clear c3
  have H' := Aside0.mk H
  clear H
  go_enter Try.func19, Try.ntmps19
  go_wp2
  repeat (go_quiet (fail); try go_wp2)
  go_loopg [5] k (fun kq v5 w' => ∃ (x5_1 : Int), v5 = .int .i64 x5_1 ∧ Aside0 (laws_eqByteS.l0 kq l0 l1 x5_1 = some r) ∧ Aside0 (kq ≤ k) ∧ Drawn0 w w')
  case atStart => exact ⟨(0), (by first | rfl | (simp; done) | (simp [*]; done)), H', ⟨Nat.le_refl _⟩, by repeat (first | exact Drawn0.refl _ | apply Drawn0.step)⟩
  case round =>
   clear H'
   try clear c1
   try clear p2
   try clear c3
   try clear c3b0
   try clear c3b1
   try clear c3b2
   obtain ⟨x5_1, rfl, HA, HK1, ⟨m1, rfl⟩⟩ := hrel
   cases gk with
   | zero => exact absurd HA.out (by simp [laws_eqByteS.l0])
   | succ k1 =>
    have H := HA.out
    clear HA
    simp only [laws_eqByteS.l0] at H
    by_cases c4 : x5_1 < (l0.length : Int)
    ·rw [if_pos c4] at H
     have c4b0 : decide (x5_1 < (l0.length : Int)) = true := decide_eq_true c4
     clear c4
     by_cases c5 : 0 ≤ x5_1
     ·rw [if_pos c5] at H
      have c5b0 : decide (0 ≤ x5_1) = true := decide_eq_true c5
      clear c5
      by_cases c6 : x5_1 < (l1.length : Int)
      ·rw [if_pos c6] at H
       have c6b0 : decide (x5_1 < (l1.length : Int)) = true := decide_eq_true c6
       clear c6
       by_cases c7 : (rd l0 x5_1) = (rd l1 x5_1)
       ·rw [if_pos c7] at H
        have c7b0 : ((rd l0 x5_1) == (rd l1 x5_1)) = true := beq_iff_eq.mpr c7
        have c7b1 : ((rd l0 x5_1) != (rd l1 x5_1)) = false := bne_eq_false_iff_eq.mpr c7
        clear c7
        have H' := Aside0.mk H
        clear H
        have p346 : 0 ≤ (x5_1 : Int) := of_decide_eq_true as_
        have q346 : x5_1 < (l0.length : Int) := of_decide_eq_true as_
        obtain ⟨ad346, e346, hx346_0⟩ := Kd.at_int HR0.out x5_1 p346 q346
        cases e346
        replace p346 := eq_true p346
        replace q346 := eq_true q346
        have p347 : 0 ≤ (x5_1 : Int) := of_decide_eq_true as_
        have q347 : x5_1 < (l1.length : Int) := of_decide_eq_true as_
        obtain ⟨ad347, e347, hx347_0⟩ := Kd.at_int HR1.out x5_1 p347 q347
        cases e347
        replace p347 := eq_true p347
        replace q347 := eq_true q347
        go_wp2
        repeat (go_quiet (fail); try go_wp2)
        go_roundg k1
        case measure => have := HK1.out; omega
        case rel => exact ⟨(wrap64 (x5_1 + 1)), (by first | rfl | (simp; done) | (simp [*]; done)), H', ⟨by have := HK1.out; omega⟩, by repeat (first | exact Drawn0.refl _ | apply Drawn0.step)⟩
       ·rw [if_neg c7] at H
        have c7b0 : ((rd l0 x5_1) == (rd l1 x5_1)) = false := beq_eq_false_iff_ne.mpr c7
        have c7b1 : ((rd l0 x5_1) != (rd l1 x5_1)) = true := bne_iff_ne.mpr c7
        obtain rfl := Option.some.inj H
        have p346 : 0 ≤ (x5_1 : Int) := of_decide_eq_true as_
        have q346 : x5_1 < (l0.length : Int) := of_decide_eq_true as_
        obtain ⟨ad346, e346, hx346_0⟩ := Kd.at_int HR0.out x5_1 p346 q346
        cases e346
        replace p346 := eq_true p346
        replace q346 := eq_true q346
        have p347 : 0 ≤ (x5_1 : Int) := of_decide_eq_true as_
        have q347 : x5_1 < (l1.length : Int) := of_decide_eq_true as_
        obtain ⟨ad347, e347, hx347_0⟩ := Kd.at_int HR1.out x5_1 p347 q347
        cases e347
        replace p347 := eq_true p347
        replace q347 := eq_true q347
        go_wp2
        repeat (go_quiet (fail); try go_wp2)
        go_ret
        exact ⟨by first | rfl | (simp; done) | (simp [*]; done), by repeat (first | exact Drawn0.refl _ | apply Drawn0.step)⟩
      ·rw [if_neg c6] at H
       exact absurd H (by simp)
     ·rw [if_neg c5] at H
      exact absurd H (by simp)
    ·rw [if_neg c4] at H
     have c4b0 : decide (x5_1 < (l0.length : Int)) = false := decide_eq_false c4
     clear c4
     obtain rfl := Option.some.inj H
     go_wp2
     repeat (go_quiet (fail); try go_wp2)
     go_ret
     exact ⟨by first | rfl | (simp; done) | (simp [*]; done), by repeat (first | exact Drawn0.refl _ | apply Drawn0.step)⟩
 ·rw [if_neg c3] at H
  have c3b0 : ((l0.length : Int) == (l1.length : Int)) = false := beq_eq_false_iff_ne.mpr c3
  have c3b1 : ((l0.length : Int) != (l1.length : Int)) = true := bne_iff_ne.mpr c3
  have c3b2 : (l0.length == l1.length) = false := by first | simpa using c3 | (simp at c3 ⊢; omega)
  obtain rfl := Option.some.inj H
  go_enter Try.func19, Try.ntmps19
  go_wp2
  repeat (go_quiet (fail); try go_wp2)
  go_ret
  exact ⟨by first | rfl | (simp; done) | (simp [*]; done), by repeat (first | exact Drawn0.refl _ | apply Drawn0.step)⟩
end Go.Proofs.Ytmkcbbbknbahgaa.P
namespace Go.Proofs.Ytmkcbbbknbahgaa.P
open Go.RowKit Go.Proofs.YtmkcbbbknbahgaaW.PrintWords Go.Proofs.YtmkcbbbknbahgaaW.PrintLast Go.Proofs.YtmkcbbbknbahgaaW.PrintMore
attribute [local go_sem] max2_int min2_int max_two min_two max_three min_three max_four min_four   -- for this text's walks alone
set_option linter.unusedVariables false
set_option linter.unusedSimpArgs false

def laws_eqByteSS.l0 : Nat → List (List Int) → List (List Int) → Int → Option (Bool)
 | 0, _, _, _ => none
 | k + 1, x0, x1, x5 => if x5 < (x0.length : Int) then (if 0 ≤ x5 then (if x5 < (x1.length : Int) then ((laws_eqByteS.f k (rd_L1 x0 x5) (rd_L1 x1 x5)).bind fun t350 => (if t350 = true then (laws_eqByteSS.l0 k x0 x1 (wrap64 (x5 + 1))) else (some false))) else (none)) else (none)) else (some true)

def laws_eqByteSS.f (k : Nat) (l0 : List (List Int)) (l1 : List (List Int)) : Option (Bool) := if (l0.length : Int) = (l1.length : Int) then (laws_eqByteSS.l0 k l0 l1 0) else (some false)

set_option maxHeartbeats 8000000 in
set_option maxRecDepth 100000 in
theorem laws_eqByteSS.calls (k : Nat) (A0 : Option Addr) (c0 : Nat) (l0 : List (List Int)) (A1 : Option Addr) (c1 : Nat) (l1 : List (List Int)) (r : Bool) (w : World) (hr0 : Kd.C (Kd.slice 5 (Kd.int .u8)) w A0 l0.length l0) (hc0 : l0.length ≤ c0) (hr1 : Kd.C (Kd.slice 5 (Kd.int .u8)) w A1 l1.length l1) (hc1 : l1.length ≤ c1) (h : laws_eqByteSS.f k l0 l1 = some r) :
  Calls Try.prog 129 #[.slice A0 l0.length c0, .slice A1 l1.length c1] w fun e w' => e = .returned (.bool r) ∧ Drawn0 w w' := by
 have HR0 := Aside0.mk hr0
 have HC0 := Aside0.mk hc0
 clear hr0 hc0
 have HR1 := Aside0.mk hr1
 have HC1 := Aside0.mk hc1
 clear hr1 hc1
 have H : (if (l0.length : Int) = (l1.length : Int) then (laws_eqByteSS.l0 k l0 l1 0) else (some false)) = some r := h
 clear h
 by_cases c3 : (l0.length : Int) = (l1.length : Int)
 ·rw [if_pos c3] at H
  have c3b0 : ((l0.length : Int) == (l1.length : Int)) = true := beq_iff_eq.mpr c3
  have c3b1 : ((l0.length : Int) != (l1.length : Int)) = false := bne_eq_false_iff_eq.mpr c3
  have c3b2 : (l0.length == l1.length) = true := by first | simpa using c3 | (simp at c3 ⊢; omega)
  clear c3
  have H' := Aside0.mk H
  clear H
  go_enter Try.func129, Try.ntmps129
  go_wp2
  repeat (go_quiet (fail); try go_wp2)
  go_loopg [5] k (fun kq v5 w' => ∃ (x5_1 : Int), v5 = .int .i64 x5_1 ∧ Aside0 (laws_eqByteSS.l0 kq l0 l1 x5_1 = some r) ∧ Aside0 (kq ≤ k) ∧ Drawn0 w w')
  case atStart => exact ⟨(0), (by first | rfl | (simp; done) | (simp [*]; done)), H', ⟨Nat.le_refl _⟩, by repeat (first | exact Drawn0.refl _ | apply Drawn0.step)⟩
  case round =>
   clear H'
   try clear c1
   try clear p2
   try clear c3
   try clear c3b0
   try clear c3b1
   try clear c3b2
   obtain ⟨x5_1, rfl, HA, HK1, ⟨m1, rfl⟩⟩ := hrel
   cases gk with
   | zero => exact absurd HA.out (by simp [laws_eqByteSS.l0])
   | succ k1 =>
    have H := HA.out
    clear HA
    simp only [laws_eqByteSS.l0] at H
    by_cases c4 : x5_1 < (l0.length : Int)
    ·rw [if_pos c4] at H
     have c4b0 : decide (x5_1 < (l0.length : Int)) = true := decide_eq_true c4
     clear c4
     by_cases c5 : 0 ≤ x5_1
     ·rw [if_pos c5] at H
      have c5b0 : decide (0 ≤ x5_1) = true := decide_eq_true c5
      clear c5
      by_cases c6 : x5_1 < (l1.length : Int)
      ·rw [if_pos c6] at H
       have c6b0 : decide (x5_1 < (l1.length : Int)) = true := decide_eq_true c6
       clear c6
       replace H := Option.bind_eq_some_iff.mp H
       obtain ⟨t350, A70, H⟩ := H
       replace H : (if t350 = true then (laws_eqByteSS.l0 k1 l0 l1 (wrap64 (x5_1 + 1))) else (some false)) = some r := H
       have A7 := Aside0.mk A70
       clear A70
       by_cases c8 : t350 = true
       ·subst c8
        rw [if_pos rfl] at H
        have H' := Aside0.mk H
        clear H
        have p348 : 0 ≤ (x5_1 : Int) := of_decide_eq_true as_
        have q348 : x5_1 < (l0.length : Int) := of_decide_eq_true as_
        obtain ⟨ad348, A348_0, c348_0, e348, hx348_0, hl348_0, hi348_0⟩ := at_L1 HR0.out x5_1 p348 q348
        cases e348
        have HR348_0 := Aside0.mk hi348_0
        have HC348_0 := Aside0.mk hl348_0
        clear hi348_0 hl348_0
        replace p348 := eq_true p348
        replace q348 := eq_true q348
        have p349 : 0 ≤ (x5_1 : Int) := of_decide_eq_true as_
        have q349 : x5_1 < (l1.length : Int) := of_decide_eq_true as_
        obtain ⟨ad349, A349_0, c349_0, e349, hx349_0, hl349_0, hi349_0⟩ := at_L1 HR1.out x5_1 p349 q349
        cases e349
        have HR349_0 := Aside0.mk hi349_0
        have HC349_0 := Aside0.mk hl349_0
        clear hi349_0 hl349_0
        replace p349 := eq_true p349
        replace q349 := eq_true q349
        go_wp2_with (first | (go_at_call 19; (with_reducible refine (laws_eqByteS.calls k1 _ _ (rd_L1 l0 x5_1) _ _ (rd_L1 l1 x5_1) true _ ?side1 ?side2 ?side3 ?side4 A7.out).mono ?_); (case side1 => exact cS_ HR348_0.out); (case side2 => exact HC348_0.out); (case side3 => exact cS_ HR349_0.out); (case side4 => exact HC349_0.out); rintro e w' ⟨rfl, ⟨nd, rfl⟩⟩; (try first | exact ⟨rfl, _, World.drewN_drewN _ _ _⟩ | exact ⟨rfl, _, Eq.trans (World.drewN_drewN _ _ _) (congrArg (World.drewN _) (Nat.add_assoc _ _ _))⟩)))
        repeat (go_quiet (first | (go_at_call 19; (with_reducible refine (laws_eqByteS.calls k1 _ _ (rd_L1 l0 x5_1) _ _ (rd_L1 l1 x5_1) true _ ?side1 ?side2 ?side3 ?side4 A7.out).mono ?_); (case side1 => exact cS_ HR348_0.out); (case side2 => exact HC348_0.out); (case side3 => exact cS_ HR349_0.out); (case side4 => exact HC349_0.out); rintro e w' ⟨rfl, ⟨nd, rfl⟩⟩; (try first | exact ⟨rfl, _, World.drewN_drewN _ _ _⟩ | exact ⟨rfl, _, Eq.trans (World.drewN_drewN _ _ _) (congrArg (World.drewN _) (Nat.add_assoc _ _ _))⟩))); try go_wp2_with (first | (go_at_call 19; (with_reducible refine (laws_eqByteS.calls k1 _ _ (rd_L1 l0 x5_1) _ _ (rd_L1 l1 x5_1) true _ ?side1 ?side2 ?side3 ?side4 A7.out).mono ?_); (case side1 => exact cS_ HR348_0.out); (case side2 => exact HC348_0.out); (case side3 => exact cS_ HR349_0.out); (case side4 => exact HC349_0.out); rintro e w' ⟨rfl, ⟨nd, rfl⟩⟩; (try first | exact ⟨rfl, _, World.drewN_drewN _ _ _⟩ | exact ⟨rfl, _, Eq.trans (World.drewN_drewN _ _ _) (congrArg (World.drewN _) (Nat.add_assoc _ _ _))⟩))))
        go_roundg k1
        case measure => have := HK1.out; omega
        case rel => exact ⟨(wrap64 (x5_1 + 1)), (by first | rfl | (simp; done) | (simp [*]; done)), H', ⟨by have := HK1.out; omega⟩, by repeat (first | exact Drawn0.refl _ | apply Drawn0.step)⟩
       ·replace c8 := Bool.eq_false_iff.mpr c8
        subst c8
        rw [if_neg (show ¬ (false = true) by decide)] at H
        obtain rfl := Option.some.inj H
        have p348 : 0 ≤ (x5_1 : Int) := of_decide_eq_true as_
        have q348 : x5_1 < (l0.length : Int) := of_decide_eq_true as_
        obtain ⟨ad348, A348_0, c348_0, e348, hx348_0, hl348_0, hi348_0⟩ := at_L1 HR0.out x5_1 p348 q348
        cases e348
        have HR348_0 := Aside0.mk hi348_0
        have HC348_0 := Aside0.mk hl348_0
        clear hi348_0 hl348_0
        replace p348 := eq_true p348
        replace q348 := eq_true q348
        have p349 : 0 ≤ (x5_1 : Int) := of_decide_eq_true as_
        have q349 : x5_1 < (l1.length : Int) := of_decide_eq_true as_
        obtain ⟨ad349, A349_0, c349_0, e349, hx349_0, hl349_0, hi349_0⟩ := at_L1 HR1.out x5_1 p349 q349
        cases e349
        have HR349_0 := Aside0.mk hi349_0
        have HC349_0 := Aside0.mk hl349_0
        clear hi349_0 hl349_0
        replace p349 := eq_true p349
        replace q349 := eq_true q349
        go_wp2_with (first | (go_at_call 19; (with_reducible refine (laws_eqByteS.calls k1 _ _ (rd_L1 l0 x5_1) _ _ (rd_L1 l1 x5_1) false _ ?side1 ?side2 ?side3 ?side4 A7.out).mono ?_); (case side1 => exact cS_ HR348_0.out); (case side2 => exact HC348_0.out); (case side3 => exact cS_ HR349_0.out); (case side4 => exact HC349_0.out); rintro e w' ⟨rfl, ⟨nd, rfl⟩⟩; (try first | exact ⟨rfl, _, World.drewN_drewN _ _ _⟩ | exact ⟨rfl, _, Eq.trans (World.drewN_drewN _ _ _) (congrArg (World.drewN _) (Nat.add_assoc _ _ _))⟩)))
        repeat (go_quiet (first | (go_at_call 19; (with_reducible refine (laws_eqByteS.calls k1 _ _ (rd_L1 l0 x5_1) _ _ (rd_L1 l1 x5_1) false _ ?side1 ?side2 ?side3 ?side4 A7.out).mono ?_); (case side1 => exact cS_ HR348_0.out); (case side2 => exact HC348_0.out); (case side3 => exact cS_ HR349_0.out); (case side4 => exact HC349_0.out); rintro e w' ⟨rfl, ⟨nd, rfl⟩⟩; (try first | exact ⟨rfl, _, World.drewN_drewN _ _ _⟩ | exact ⟨rfl, _, Eq.trans (World.drewN_drewN _ _ _) (congrArg (World.drewN _) (Nat.add_assoc _ _ _))⟩))); try go_wp2_with (first | (go_at_call 19; (with_reducible refine (laws_eqByteS.calls k1 _ _ (rd_L1 l0 x5_1) _ _ (rd_L1 l1 x5_1) false _ ?side1 ?side2 ?side3 ?side4 A7.out).mono ?_); (case side1 => exact cS_ HR348_0.out); (case side2 => exact HC348_0.out); (case side3 => exact cS_ HR349_0.out); (case side4 => exact HC349_0.out); rintro e w' ⟨rfl, ⟨nd, rfl⟩⟩; (try first | exact ⟨rfl, _, World.drewN_drewN _ _ _⟩ | exact ⟨rfl, _, Eq.trans (World.drewN_drewN _ _ _) (congrArg (World.drewN _) (Nat.add_assoc _ _ _))⟩))))
        go_ret
        exact ⟨by first | rfl | (simp; done) | (simp [*]; done), by repeat (first | exact Drawn0.refl _ | apply Drawn0.step)⟩
      ·rw [if_neg c6] at H
       exact absurd H (by simp)
     ·rw [if_neg c5] at H
      exact absurd H (by simp)
    ·rw [if_neg c4] at H
     have c4b0 : decide (x5_1 < (l0.length : Int)) = false := decide_eq_false c4
     clear c4
     obtain rfl := Option.some.inj H
     go_wp2
     repeat (go_quiet (fail); try go_wp2)
     go_ret
     exact ⟨by first | rfl | (simp; done) | (simp [*]; done), by repeat (first | exact Drawn0.refl _ | apply Drawn0.step)⟩
 ·rw [if_neg c3] at H
  have c3b0 : ((l0.length : Int) == (l1.length : Int)) = false := beq_eq_false_iff_ne.mpr c3
  have c3b1 : ((l0.length : Int) != (l1.length : Int)) = true := bne_iff_ne.mpr c3
  have c3b2 : (l0.length == l1.length) = false := by first | simpa using c3 | (simp at c3 ⊢; omega)
  obtain rfl := Option.some.inj H
  go_enter Try.func129, Try.ntmps129
  go_wp2
  repeat (go_quiet (fail); try go_wp2)
  go_ret
  exact ⟨by first | rfl | (simp; done) | (simp [*]; done), by repeat (first | exact Drawn0.refl _ | apply Drawn0.step)⟩
end Go.Proofs.Ytmkcbbbknbahgaa.P
namespace Go.Proofs.Ytmkcbbbknbahgaa.P
open Go.RowKit Go.Proofs.YtmkcbbbknbahgaaW.PrintWords Go.Proofs.YtmkcbbbknbahgaaW.PrintLast Go.Proofs.YtmkcbbbknbahgaaW.PrintMore
attribute [local go_sem] max2_int min2_int max_two min_two max_three min_three max_four min_four   -- for this text's walks alone
set_option linter.unusedVariables false
set_option linter.unusedSimpArgs false

def laws_eqMemory.f (k : Nat) (l0_0 : List (List Int)) (l1_0 : List (List Int)) : Option (Bool) := (laws_eqByteSS.f k l0_0 l1_0).bind fun t353 => (if t353 = true then (some true) else (some false))

set_option maxHeartbeats 8000000 in
set_option maxRecDepth 100000 in
theorem laws_eqMemory.calls (k : Nat) (A0_0 : Option Addr) (c0_0 : Nat) (l0_0 : List (List Int)) (A1_0 : Option Addr) (c1_0 : Nat) (l1_0 : List (List Int)) (r : Bool) (w : World) (hr0_0 : Kd.C (Kd.slice 5 (Kd.int .u8)) w A0_0 l0_0.length l0_0) (hc0_0 : l0_0.length ≤ c0_0) (hr1_0 : Kd.C (Kd.slice 5 (Kd.int .u8)) w A1_0 l1_0.length l1_0) (hc1_0 : l1_0.length ≤ c1_0) (h : laws_eqMemory.f k l0_0 l1_0 = some r) :
  Calls Try.prog 61 #[.agg #[.slice A0_0 l0_0.length c0_0], .agg #[.slice A1_0 l1_0.length c1_0]] w fun e w' => e = .returned (.bool r) ∧ Below w.heap.size w w' := by
 have hu31 := Try.underlying31
 have HR0_0 := Aside0.mk hr0_0
 have HC0_0 := Aside0.mk hc0_0
 clear hr0_0 hc0_0
 have HR1_0 := Aside0.mk hr1_0
 have HC1_0 := Aside0.mk hc1_0
 clear hr1_0 hc1_0
 have HB := Aside0.mk (Below.refl w.heap.size w)
 have H : ((laws_eqByteSS.f k l0_0 l1_0).bind fun t353 => (if t353 = true then (some true) else (some false))) = some r := h
 clear h
 replace H := Option.bind_eq_some_iff.mp H
 obtain ⟨t353, A30, H⟩ := H
 replace H : (if t353 = true then (some true) else (some false)) = some r := H
 have A3 := Aside0.mk A30
 clear A30
 by_cases c4 : t353 = true
 ·subst c4
  rw [if_pos rfl] at H
  obtain rfl := Option.some.inj H
  go_enter Try.func61, Try.ntmps61
  go_wp2_with (first | ((with_reducible refine gate_dst (N := 2) rfl ?_); refine box_event ?hg (N := 2) ?hd (cs := #[.slice A0_0 l0_0.length c0_0]) (t := 31) ?hr ?_; (case hd => rfl); (case hg => rfl); (case hr => exact gs_); intro gb351 hg w5 hbox hb; have BK351 := Aside0.mk (hbox); have GW351 := gE_ HB hg; have GE351 := gE_ HB hg; replace HB := Aside0.mk (below_step (by repeat (first | (with_reducible first | exact HB.out | apply ba_ | apply bn_ | apply bd_) | exact HB.out)) hb); clear hb hbox hg) | ((with_reducible refine gate_dst (N := 3) rfl ?_); refine box_event ?hg (N := 3) ?hd (cs := #[.slice A1_0 l1_0.length c1_0]) (t := 31) ?hr ?_; (case hd => rfl); (case hg => rfl); (case hr => exact gs_); intro gb352 hg w6 hbox hb; have BK352 := Aside0.mk (hbox); have GW352 := gE_ HB hg; have GE352 := gE_ HB hg; replace HB := Aside0.mk (below_step (by repeat (first | (with_reducible first | exact HB.out | apply ba_ | apply bn_ | apply bd_ | refine bset_ ?_ (by assumption)) | exact HB.out)) hb); have NB351_352 := nB_ BK351 hg; have NB352_351 := nA_ BK351 hg; replace BK351 := bB_ BK351 hb; clear hb hbox hg; have hnb7 := NB351_352.out; have hnc7 := NB352_351.out; obtain ⟨hcz8_0, hfz8_0⟩ := zc1_ BK351; obtain ⟨hcz9_0, hfz9_0⟩ := zc1_ BK352) | ((with_reducible refine gate_callee (f := 129) rfl ?_); refine goesL_ (some 9) rfl rfl Try.func129 (by kernel_rfl) rfl #[.slice A0_0 l0_0.length c0_0, .slice A1_0 l1_0.length c1_0] rfl ar_ ?_; (with_reducible refine (laws_eqByteSS.calls k _ _ l0_0 _ _ l1_0 true _ ?side1 ?side2 ?side3 ?side4 A3.out).mono ?_); (case side1 => exact cS_ (Kd.C_below HR0_0.out HB.out)); (case side2 => exact HC0_0.out); (case side3 => exact cS_ (Kd.C_below HR1_0.out HB.out)); (case side4 => exact HC1_0.out); rintro e w' ⟨rfl, ⟨nd, rfl⟩⟩; refine ⟨_, rfl, ?_⟩))
  go_ret
  exact ⟨er_, by repeat (first | (with_reducible first | exact HB.out | apply below_alloc | apply pw_below_drewN | apply below_drew1 | refine below_set ?_ GE351.out | refine below_set ?_ GE352.out) | exact HB.out)⟩
 ·replace c4 := Bool.eq_false_iff.mpr c4
  subst c4
  rw [if_neg (show ¬ (false = true) by decide)] at H
  obtain rfl := Option.some.inj H
  go_enter Try.func61, Try.ntmps61
  go_wp2_with (first | ((with_reducible refine gate_dst (N := 2) rfl ?_); refine box_event ?hg (N := 2) ?hd (cs := #[.slice A0_0 l0_0.length c0_0]) (t := 31) ?hr ?_; (case hd => rfl); (case hg => rfl); (case hr => exact gs_); intro gb351 hg w10 hbox hb; have BK351 := Aside0.mk (hbox); have GW351 := gE_ HB hg; have GE351 := gE_ HB hg; replace HB := Aside0.mk (below_step (by repeat (first | (with_reducible first | exact HB.out | apply ba_ | apply bn_ | apply bd_) | exact HB.out)) hb); clear hb hbox hg) | ((with_reducible refine gate_dst (N := 3) rfl ?_); refine box_event ?hg (N := 3) ?hd (cs := #[.slice A1_0 l1_0.length c1_0]) (t := 31) ?hr ?_; (case hd => rfl); (case hg => rfl); (case hr => exact gs_); intro gb352 hg w11 hbox hb; have BK352 := Aside0.mk (hbox); have GW352 := gE_ HB hg; have GE352 := gE_ HB hg; replace HB := Aside0.mk (below_step (by repeat (first | (with_reducible first | exact HB.out | apply ba_ | apply bn_ | apply bd_ | refine bset_ ?_ (by assumption)) | exact HB.out)) hb); have NB351_352 := nB_ BK351 hg; have NB352_351 := nA_ BK351 hg; replace BK351 := bB_ BK351 hb; clear hb hbox hg; have hnb12 := NB351_352.out; have hnc12 := NB352_351.out; obtain ⟨hcz13_0, hfz13_0⟩ := zc1_ BK351; obtain ⟨hcz14_0, hfz14_0⟩ := zc1_ BK352) | ((with_reducible refine gate_callee (f := 129) rfl ?_); refine goesL_ (some 9) rfl rfl Try.func129 (by kernel_rfl) rfl #[.slice A0_0 l0_0.length c0_0, .slice A1_0 l1_0.length c1_0] rfl ar_ ?_; (with_reducible refine (laws_eqByteSS.calls k _ _ l0_0 _ _ l1_0 false _ ?side1 ?side2 ?side3 ?side4 A3.out).mono ?_); (case side1 => exact cS_ (Kd.C_below HR0_0.out HB.out)); (case side2 => exact HC0_0.out); (case side3 => exact cS_ (Kd.C_below HR1_0.out HB.out)); (case side4 => exact HC1_0.out); rintro e w' ⟨rfl, ⟨nd, rfl⟩⟩; refine ⟨_, rfl, ?_⟩))
  go_ret
  exact ⟨er_, by repeat (first | (with_reducible first | exact HB.out | apply below_alloc | apply pw_below_drewN | apply below_drew1 | refine below_set ?_ GE351.out | refine below_set ?_ GE352.out) | exact HB.out)⟩
end Go.Proofs.Ytmkcbbbknbahgaa.P
