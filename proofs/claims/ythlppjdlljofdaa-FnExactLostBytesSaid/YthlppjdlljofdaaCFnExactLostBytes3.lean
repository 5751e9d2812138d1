/- Part 3 of the proof of FnExactLostBytes: contracts of functions that the law reaches. -/
import Derived.Test.YthlppjdlljofdaaCFnExactLostBytes2
import Derived.WalkSpells
namespace Go.Proofs.Ythlppjdlljofdaa.P
open Go.RowKit Go.Proofs.YthlppjdlljofdaaW.PrintWords Go.Proofs.YthlppjdlljofdaaW.PrintLast Go.Proofs.YthlppjdlljofdaaW.PrintMore
set_option linter.unusedVariables false
set_option linter.unusedSimpArgs false

def askedOk (x : S128) : Bool := decide (0 ≤ x.f0) && (decide (1 ≤ x.f1) && decide (x.f1 ≤ 16))

set_option maxHeartbeats 4000000 in
set_option maxRecDepth 100000 in
theorem impl_isAsked.calls (x : S128) (w : World) :
    Calls Try.prog 303 #[.agg #[.int .i64 x.f0, .int .i64 x.f1]] w fun e w' => e = .returned (.bool (askedOk x)) ∧ Below w.heap.size w w' := by
  have hu2 := Try.underlying128
  have HA := Below.alloc (Below.refl w.heap.size w) (Nat.le_refl _) (.cells #[.int .i64 x.f0, .int .i64 x.f1] 128)
  by_cases h : 0 ≤ x.f0
  · have hd : decide (0 ≤ x.f0) = true := decide_eq_true h
    have hd2 : decide (x.f0 ≥ 0) = true := decide_eq_true h
    have ht := eq_true h
    go_enter Try.func303, Try.ntmps303
    go_wp2_with fail
    refine (impl_within.calls x.f1 1 16 (decide (1 ≤ x.f1) && decide (x.f1 ≤ 16)) _ (impl_within.eq _ _ _)).mono ?_
    rintro e w' ⟨rfl, hb⟩
    have HB := Aside0.mk (below_step HA (by first | exact hb | exact Drawn0.below hb))
    clear hb
    go_wp2
    go_ret
    exact ⟨by unfold askedOk; rw [hd]; rfl, HB.out⟩
  · have hd : decide (0 ≤ x.f0) = false := decide_eq_false h
    have hd2 : decide (x.f0 ≥ 0) = false := decide_eq_false h
    go_enter Try.func303, Try.ntmps303
    go_wp2
    go_ret
    exact ⟨by unfold askedOk; rw [hd]; rfl, HA⟩

set_option maxHeartbeats 4000000 in
set_option maxRecDepth 100000 in
theorem areAsked1_calls (x : S128) (w : World) :
    Calls Try.prog 302 #[.agg #[.int .i64 x.f0, .int .i64 x.f1]] w fun e w' => e = .returned (.bool (!askedOk x)) ∧ Below w.heap.size w w' := by
  have hu2 := Try.underlying128
  go_enter Try.func302, Try.ntmps302
  go_wp2_with fail
  refine (impl_isAsked.calls x _).mono ?_
  rintro e w' ⟨rfl, hb'⟩
  have HB := Aside0.mk hb'
  clear hb'
  go_wp2
  go_ret
  exact ⟨rfl, ((Below.refl _ _).alloc (Nat.le_refl _) _).trans (HB.out.mono (by simp))⟩

set_option maxHeartbeats 4000000 in
set_option maxRecDepth 100000 in
/-- slices.IndexFunc at what is asked: whatever predicate that may lay blocks of its own. -/
theorem indexFuncA_calls (p : S128 → Bool) (fn : Nat) (lb : Array Value) (A0 : Option Addr) (c0 : Nat) (l0 : List S128) (w : World) (hr : Kd.C k128 w A0 l0.length l0)
    (hp : ∀ (x : S128) (W : World), Below w.heap.size w W → Calls Try.prog fn (#[.agg #[.int .i64 x.f0, .int .i64 x.f1]] ++ lb) W fun e w' => e = .returned (.bool (p x)) ∧ Below W.heap.size W w')
    (eg : ∀ args w, (callFunc fn args).run Try.prog w = .ok (.enter fn args) w) :
    Calls Try.prog 312 #[.slice A0 l0.length c0, .func (.func fn) #[] lb] w fun e w' => e = .returned (.int .i64 (idxP p l0 0)) ∧ Below w.heap.size w w' := by
  have hu2 := Try.underlying128
  have HR := Aside0.mk hr
  have hbig := hr.2.1
  clear hr
  go_enter Try.func312, Try.ntmps312
  go_wp2
  go_loopg [5, 8] l0.length (fun gg _ s8 wr => ∃ i : Int, s8 = .int .i64 i ∧ Aside0 (0 ≤ i) ∧ Aside0 (i ≤ l0.length) ∧ Aside0 ((l0.length : Int) - i ≤ gg) ∧ Aside0 (idxP p l0 0 = idxP p (l0.drop i.toNat) i) ∧ Aside0 (Below w.heap.size w wr))
  case atStart => exact ⟨0, rfl, ⟨by omega⟩, ⟨by omega⟩, ⟨by omega⟩, ⟨rfl⟩, ⟨Below.refl _ w⟩⟩
  case round =>
    obtain ⟨i, rfl, H0, H1, HG, HI, HB⟩ := hrel
    by_cases hlt : i < (l0.length : Int)
    · have hd : decide (i < (l0.length : Int)) = true := decide_eq_true hlt
      obtain ⟨ad, e, hx0, hx1⟩ := at_T128 HR.out i H0.out hlt
      cases e
      replace hx0 := (HB.out.cell (World.block_lt_of_cell? w _ hx0)).trans hx0
      replace hx1 := (HB.out.cell (World.block_lt_of_cell? w _ hx1)).trans hx1
      have hcall := hp (rd_T128 l0 i) wr HB.out
      have hstep : idxP p (l0.drop i.toNat) i = if p (rd_T128 l0 i) = true then i else idxP p (l0.drop (i + 1).toNat) (i + 1) := by
        have h0 := H0.out
        have hl : i.toNat < l0.length := by omega
        rw [List.drop_eq_getElem_cons hl, show (i + 1).toNat = i.toNat + 1 by omega]
        show (if p l0[i.toNat] = true then _ else _) = _
        have : rd_T128 l0 i = l0[i.toNat] := by unfold rd_T128; rw [List.getD_eq_getElem?_getD, List.getElem?_eq_getElem hl]; rfl
        rw [this]
      have HS := Aside0.mk hstep
      have q0 : 0 ≤ i := H0.out
      have hw : wrap64 (i + 1) = i + 1 := by unfold wrap64; omega
      have HW := Aside0.mk hw
      have hlti : (i < (l0.length : Int)) = True := eq_true hlt
      have q0' : (0 ≤ i) = True := eq_true q0
      clear hp hstep hw
      cases hq : p (rd_T128 l0 i) with
      | true =>
        rw [hq] at hcall
        have HQ := Aside0.mk hq
        clear hq
        go_wp2_with fail
        refine hcall.mono ?_
        rintro e w' ⟨rfl, hb'⟩
        clear hcall hx0 hx1
        have HB' := Aside0.mk hb'
        clear hb'
        go_wp2
        go_ret
        exact ⟨by rw [HI.out, HS.out, if_pos HQ.out]; rfl, below_step HB.out HB'.out⟩
      | false =>
        rw [hq] at hcall
        have HQ := Aside0.mk hq
        clear hq
        go_wp2_with fail
        refine hcall.mono ?_
        rintro e w' ⟨rfl, hb'⟩
        clear hcall hx0 hx1
        have HB' := Aside0.mk hb'
        clear hb'
        go_wp2
        go_roundg (l0.length - (i + 1).toNat)
        case measure => have := HG.out; omega
        case rel => exact ⟨i + 1, by first | rfl | (rw [HW.out]; rfl), ⟨by omega⟩, ⟨by omega⟩, ⟨by omega⟩, ⟨by rw [HI.out, HS.out, if_neg (by rw [HQ.out]; decide)]⟩, ⟨below_step HB.out HB'.out⟩⟩
    · have hd : decide (i < (l0.length : Int)) = false := decide_eq_false hlt
      go_wp2
      go_ret
      have h0 := H0.out
      have h1 := H1.out
      have : l0.drop i.toNat = [] := List.drop_eq_nil_of_le (by omega)
      exact ⟨by rw [HI.out, this]; rfl, HB.out⟩

set_option maxHeartbeats 4000000 in
set_option maxRecDepth 100000 in
theorem containsFuncA_calls (p : S128 → Bool) (fn : Nat) (lb : Array Value) (A0 : Option Addr) (c0 : Nat) (l0 : List S128) (w : World) (hr : Kd.C k128 w A0 l0.length l0)
    (hp : ∀ (x : S128) (W : World), Below w.heap.size w W → Calls Try.prog fn (#[.agg #[.int .i64 x.f0, .int .i64 x.f1]] ++ lb) W fun e w' => e = .returned (.bool (p x)) ∧ Below W.heap.size W w')
    (eg : ∀ args w, (callFunc fn args).run Try.prog w = .ok (.enter fn args) w) :
    Calls Try.prog 301 #[.slice A0 l0.length c0, .func (.func fn) #[] lb] w fun e w' => e = .returned (.bool (l0.any p)) ∧ Below w.heap.size w w' := by
  have HI := indexFuncA_calls p fn lb A0 c0 l0 w hr hp eg
  have HA := Aside0.mk (idxP_any p l0 0 (by omega))
  clear hp hr eg
  go_enter Try.func301, Try.ntmps301
  go_wp2_with fail
  refine HI.mono ?_
  rintro e w' ⟨rfl, hb'⟩
  clear HI
  have HB' := Aside0.mk hb'
  clear hb'
  go_wp2
  go_ret
  exact ⟨by rw [← HA.out]; rfl, HB'.out⟩

/-- Is the arena valid, and all that is asked for? -/
def impl_areAsked.f (k : Nat) (l0_0 : List (List Int)) (a0_1 : Int) (a0_2 : Int) (a0_3 : Int) (a0_4 : Int) (a0_5 : Int) (l0_6 : List Int) (l1 : List S128) : Option Bool := (impl_IsArena.f k l0_0 a0_1 a0_2 a0_3 a0_4 a0_5 l0_6).bind fun b => some (b && decide ((l1.length : Int) ≤ 6) && l1.all askedOk)

set_option maxHeartbeats 4000000 in
set_option maxRecDepth 100000 in
theorem impl_areAsked.calls (k : Nat) (A0_0 : Option Addr) (c0_0 : Nat) (l0_0 : List (List Int)) (a0_1 : Int) (a0_2 : Int) (a0_3 : Int) (a0_4 : Int) (a0_5 : Int) (A0_6 : Option Addr) (c0_6 : Nat) (l0_6 : List Int) (A1 : Option Addr) (c1 : Nat) (l1 : List S128) (r : Bool) (w : World) (hr0_0 : Kd.C (Kd.slice 5 (Kd.int .u8)) w A0_0 l0_0.length l0_0) (hc0_0 : l0_0.length ≤ c0_0) (hr0_6 : Kd.C (Kd.int .i64) w A0_6 l0_6.length l0_6) (hc0_6 : l0_6.length ≤ c0_6)
    (hr1 : Kd.C k128 w A1 l1.length l1) (hc1 : l1.length ≤ c1) (h : impl_areAsked.f k l0_0 a0_1 a0_2 a0_3 a0_4 a0_5 l0_6 l1 = some r) :
    Calls Try.prog 283 #[.agg #[.slice A0_0 l0_0.length c0_0, .int .i64 a0_1, .int .i64 a0_2, .int .i64 a0_3, .int .i64 a0_4, .int .i64 a0_5, .slice A0_6 l0_6.length c0_6], .slice A1 l1.length c1] w fun e w' => e = .returned (.bool r) ∧ Below w.heap.size w w' := by
  have hu1 := Try.underlying34
  unfold impl_areAsked.f at h
  obtain ⟨b, hb, hr⟩ := Option.bind_eq_some_iff.mp h
  have hr := Option.some.inj hr
  clear h
  have HM := Aside0.mk hb
  have HR0 := Aside0.mk hr0_0
  have HC0 := Aside0.mk hc0_0
  have HR6 := Aside0.mk hr0_6
  have HC6 := Aside0.mk hc0_6
  have HR1 := Aside0.mk hr1
  have HA := Below.alloc (Below.refl w.heap.size w) (Nat.le_refl _) (.cells #[.slice A0_0 l0_0.length c0_0, .int .i64 a0_1, .int .i64 a0_2, .int .i64 a0_3, .int .i64 a0_4, .int .i64 a0_5, .slice A0_6 l0_6.length c0_6] 34)
  have HB := Aside0.mk HA
  clear hb hr0_0 hc0_0 hr1 hr0_6 hc0_6 HA
  go_enter Try.func283, Try.ntmps283
  go_wp2_with fail
  refine (impl_IsArena.calls k A0_0 c0_0 l0_0 a0_1 a0_2 a0_3 a0_4 a0_5 A0_6 c0_6 l0_6 b _ (Kd.C_below HR0.out HB.out) HC0.out (Kd.C_below HR6.out HB.out) HC6.out HM.out).mono ?_
  rintro e w2 ⟨rfl, hb2⟩
  have HB2 := Aside0.mk (below_step HB.out hb2)
  clear hb2
  cases b with
  | false =>
    have hr' : r = false := by rw [← hr]; rfl
    subst hr'
    clear hr
    go_wp2
    go_ret
    exact ⟨rfl, HB2.out⟩
  | true =>
    by_cases h6 : (l1.length : Int) ≤ 6
    · have hr' : r = !(l1.any fun x => !askedOk x) := by rw [← hr, all_of_any]; simp [h6]
      subst hr'
      clear hr
      have h6b : decide ((l1.length : Int) ≤ 6) = true := decide_eq_true h6
      go_wp2_with fail
      refine (containsFuncA_calls (fun x => !askedOk x) 302 #[] A1 c1 l1 w2 (Kd.C_below HR1.out HB2.out) (fun x W hW => areAsked1_calls x W) (Go.Proofs.enters_of Try.func302 (by kernel_rfl) rfl)).mono ?_
      rintro e w5 ⟨rfl, hb5⟩
      have HB6 := Aside0.mk (below_step HB2.out hb5)
      clear hb5
      go_wp2
      go_ret
      exact ⟨rfl, HB6.out⟩
    · have hr' : r = false := by rw [← hr]; simp [h6]
      subst hr'
      clear hr
      have h6b : decide ((l1.length : Int) ≤ 6) = false := decide_eq_false h6
      go_wp2
      go_ret
      exact ⟨rfl, HB2.out⟩
end Go.Proofs.Ythlppjdlljofdaa.P
namespace Go.Proofs.Ythlppjdlljofdaa.P
open Go.RowKit Go.Proofs.YthlppjdlljofdaaW.PrintWords Go.Proofs.YthlppjdlljofdaaW.PrintLast Go.Proofs.YthlppjdlljofdaaW.PrintMore
attribute [local go_sem] max2_int min2_int max_two min_two max_three min_three max_four min_four   -- for this text's walks alone
set_option linter.unusedVariables false
set_option linter.unusedSimpArgs false

def impl_Window_part.f (a0_0 : Int) (a0_1 : Int) (a0_2 : Int) (a0_3 : Int) (a1 : Int) (a2 : Int) : Option (Int × Int × Int × Int) := some (a0_0, wrap64 (a0_1 + a1), a2, a2)

set_option maxHeartbeats 8000000 in
set_option maxRecDepth 100000 in
theorem impl_Window_part.calls (a0_0 : Int) (a0_1 : Int) (a0_2 : Int) (a0_3 : Int) (a1 : Int) (a2 : Int) (r1 : Int) (r2 : Int) (r3 : Int) (r4 : Int) (w : World) (h : impl_Window_part.f a0_0 a0_1 a0_2 a0_3 a1 a2 = some (r1, r2, r3, r4)) :
    Calls Try.prog 187 #[.agg #[.int .i64 a0_0, .int .i64 a0_1, .int .i64 a0_2, .int .i64 a0_3], .int .i64 a1, .int .i64 a2] w fun e w' => e = .returned (.agg #[.int .i64 r1, .int .i64 r2, .int .i64 r3, .int .i64 r4]) ∧ Below w.heap.size w w' := by
  have hu32 := Try.underlying32
  have HB := Aside0.mk (Below.refl w.heap.size w)
  have H : (some (a0_0, wrap64 (a0_1 + a1), a2, a2)) = some (r1, r2, r3, r4) := h
  clear h
  simp only [Option.some.injEq, Prod.mk.injEq] at H
  obtain ⟨rfl, rfl, rfl, rfl⟩ := H
  go_enter Try.func187, Try.ntmps187
  go_wp2_with (first | ((with_reducible refine gate_dst (N := 3) rfl ?_); refine box_event ?hg (N := 3) ?hd (cs := #[.int .i64 a0_0, .int .i64 a0_1, .int .i64 a0_2, .int .i64 a0_3]) (t := 32) ?hr ?_; (case hd => rfl); (case hg => rfl); (case hr => first | (go_simp; done) | (go_simp; rfl)); intro gb1101 hg w4 hbox hb; have n0_ := Aside0.mk (below_step (by repeat (first | (with_reducible first | exact HB.out | apply below_alloc | apply pw_below_drewN | apply below_drew1) | exact HB.out)) hb); have n1_ := Aside0.mk (hbox); have n2_ := Aside0.mk ((by rw [hg]; exact (below_size (by repeat (first | (with_reducible first | exact HB.out | apply below_alloc | apply pw_below_drewN | apply below_drew1) | exact HB.out))) : w.heap.size ≤ gb1101)); have n3_ := Aside0.mk ((by rw [hg]; exact (below_size (by repeat (first | (with_reducible first | exact HB.out | apply below_alloc | apply pw_below_drewN | apply below_drew1) | exact HB.out))) : w.heap.size ≤ gb1101)); clear HB; have HB := n0_; have BK1101 := n1_; have GW1101 := n2_; have GE1101 := n3_; clear n0_ n1_ n2_ n3_; clear hb hbox hg) | ((with_reducible refine gate_dst (N := 6) rfl ?_); refine box_event ?hg (N := 6) ?hd (cs := #[.int .i64 0, .int .i64 0, .int .i64 0, .int .i64 0]) (t := 32) ?hr ?_; (case hd => rfl); (case hg => rfl); (case hr => first | (go_simp; done) | (go_simp; rfl)); intro gb1102 hg w5 hbox hb; have n0_ := Aside0.mk (blk_below (g := gb1101) (o := .cells #[.int .i64 a0_0, .int .i64 a0_1, .int .i64 a0_2, .int .i64 a0_3] 32 (0, 0)) (by (with_reducible repeat (first | refine blk_drewN ?_ _ | refine blk_drew ?_ | refine blk_alloc ?_ _)); exact BK1101.out) hb); have n1_ := Aside0.mk (below_step (by repeat (first | (with_reducible first | exact HB.out | apply below_alloc | apply pw_below_drewN | apply below_drew1 | refine below_set ?_ GE1101.out) | exact HB.out)) hb); have n2_ := Aside0.mk (hbox); have n3_ := Aside0.mk ((by rw [hg]; exact (below_size (by repeat (first | (with_reducible first | exact HB.out | apply below_alloc | apply pw_below_drewN | apply below_drew1 | refine below_set ?_ GE1101.out) | exact HB.out))) : w.heap.size ≤ gb1102)); have n4_ := Aside0.mk ((by rw [hg]; exact (below_size (by repeat (first | (with_reducible first | exact HB.out | apply below_alloc | apply pw_below_drewN | apply below_drew1 | refine below_set ?_ GE1101.out) | exact HB.out))) : w.heap.size ≤ gb1102)); have n5_ := Aside0.mk ((by rw [hg]; exact Nat.ne_of_lt (blk_lt (g := gb1101) (o := .cells #[.int .i64 a0_0, .int .i64 a0_1, .int .i64 a0_2, .int .i64 a0_3] 32 (0, 0)) (by (with_reducible repeat (first | refine blk_drewN ?_ _ | refine blk_drew ?_ | refine blk_alloc ?_ _)); exact BK1101.out)) : gb1101 ≠ gb1102)); have n6_ := Aside0.mk ((by rw [hg]; exact Nat.ne_of_gt (blk_lt (g := gb1101) (o := .cells #[.int .i64 a0_0, .int .i64 a0_1, .int .i64 a0_2, .int .i64 a0_3] 32 (0, 0)) (by (with_reducible repeat (first | refine blk_drewN ?_ _ | refine blk_drew ?_ | refine blk_alloc ?_ _)); exact BK1101.out)) : gb1102 ≠ gb1101)); clear BK1101; clear HB; have BK1101 := n0_; have HB := n1_; have BK1102 := n2_; have GW1102 := n3_; have GE1102 := n4_; have NB1101_1102 := n5_; have NB1102_1101 := n6_; clear n0_ n1_ n2_ n3_ n4_ n5_ n6_; clear hb hbox hg; have hnb6 := NB1101_1102.out; have hnc6 := NB1102_1101.out; have hcz7_0 : w5.cell? ⟨gb1101, 0, none⟩ = some (.int .i64 a0_0) := (blk_cell BK1101.out 0).trans rfl; have hcz7_1 : w5.cell? ⟨gb1101, 1, none⟩ = some (.int .i64 a0_1) := (blk_cell BK1101.out 1).trans rfl; have hcz7_2 : w5.cell? ⟨gb1101, 2, none⟩ = some (.int .i64 a0_2) := (blk_cell BK1101.out 2).trans rfl; have hcz7_3 : w5.cell? ⟨gb1101, 3, none⟩ = some (.int .i64 a0_3) := (blk_cell BK1101.out 3).trans rfl; have hfz7_0 := blk_frozen BK1101.out 0; have hfz7_1 := blk_frozen BK1101.out 1; have hfz7_2 := blk_frozen BK1101.out 2; have hfz7_3 := blk_frozen BK1101.out 3; have hcz8_0 : w5.cell? ⟨gb1102, 0, none⟩ = some (.int .i64 0) := (blk_cell BK1102.out 0).trans rfl; have hcz8_1 : w5.cell? ⟨gb1102, 1, none⟩ = some (.int .i64 0) := (blk_cell BK1102.out 1).trans rfl; have hcz8_2 : w5.cell? ⟨gb1102, 2, none⟩ = some (.int .i64 0) := (blk_cell BK1102.out 2).trans rfl; have hcz8_3 : w5.cell? ⟨gb1102, 3, none⟩ = some (.int .i64 0) := (blk_cell BK1102.out 3).trans rfl; have hfz8_0 := blk_frozen BK1102.out 0; have hfz8_1 := blk_frozen BK1102.out 1; have hfz8_2 := blk_frozen BK1102.out 2; have hfz8_3 := blk_frozen BK1102.out 3))
  refine bodyPost_ret (results_cell_row rfl _ _ gb1102 32 #[.int .i64 a0_0, .int .i64 (wrap64 (a0_1 + a1)), .int .i64 a2, .int .i64 a2] (0, 0) _ rfl (by (with_reducible repeat (first | refine blk_drewN ?_ _ | refine blk_drew ?_ | refine blk_alloc ?_ _)); refine blk_put (cs := #[.int .i64 a0_0, .int .i64 (wrap64 (a0_1 + a1)), .int .i64 a2, .int .i64 0]) ?_ 3 _ rfl; (with_reducible repeat (first | refine blk_drewN ?_ _ | refine blk_drew ?_ | refine blk_alloc ?_ _)); refine blk_put (cs := #[.int .i64 a0_0, .int .i64 (wrap64 (a0_1 + a1)), .int .i64 0, .int .i64 0]) ?_ 2 _ rfl; (with_reducible repeat (first | refine blk_drewN ?_ _ | refine blk_drew ?_ | refine blk_alloc ?_ _)); refine blk_put (cs := #[.int .i64 a0_0, .int .i64 0, .int .i64 0, .int .i64 0]) ?_ 1 _ rfl; (with_reducible repeat (first | refine blk_drewN ?_ _ | refine blk_drew ?_ | refine blk_alloc ?_ _)); refine blk_put (cs := #[.int .i64 0, .int .i64 0, .int .i64 0, .int .i64 0]) ?_ 0 _ rfl; (with_reducible repeat (first | refine blk_drewN ?_ _ | refine blk_drew ?_ | refine blk_alloc ?_ _)); exact BK1102.out) Try.underlying32 rfl (by kernel_rfl)) rfl ?_
  exact ⟨by first | rfl | (simp [errW_none, errW_some] <;> rfl) | (simp [*, errW_none, errW_some] <;> rfl), by repeat (first | (with_reducible first | exact HB.out | apply below_alloc | apply pw_below_drewN | apply below_drew1 | refine below_set ?_ GE1101.out | refine below_set ?_ GE1102.out) | exact HB.out)⟩
end Go.Proofs.Ythlppjdlljofdaa.P
namespace Go.Proofs.Ythlppjdlljofdaa.P
open Go.RowKit Go.Proofs.YthlppjdlljofdaaW.PrintWords Go.Proofs.YthlppjdlljofdaaW.PrintLast Go.Proofs.YthlppjdlljofdaaW.PrintMore
set_option linter.unusedVariables false
set_option linter.unusedSimpArgs false

/-- Where the next window with an align begins. -/
def beginF (u al : Int) : Int := wrap64 ((wrap64 (Int.tdiv (wrap64 ((wrap64 (u + al)) - 1)) al)) * al)

set_option maxHeartbeats 4000000 in
set_option maxRecDepth 100000 in
theorem begin_at (A0 : Option Addr) (n0 c0 : Nat) (a1 a2 a3 a4 a5 : Int) (A6 : Option Addr) (n6 c6 : Nat) (q1 : Int) (hq : q1 ≠ 0) (w : World) :
    Calls Try.prog 313 #[.agg #[(.slice A0 n0 c0), (.int .i64 a1), (.int .i64 a2), (.int .i64 a3), (.int .i64 a4), (.int .i64 a5), (.slice A6 n6 c6)], .int .i64 q1] w fun e w' => e = .returned (.int .i64 (beginF a5 q1)) ∧ Below w.heap.size w w' := by
  have hu1 := Try.underlying34
  have HA := Below.alloc (Below.refl w.heap.size w) (Nat.le_refl _) (.cells #[(.slice A0 n0 c0), (.int .i64 a1), (.int .i64 a2), (.int .i64 a3), (.int .i64 a4), (.int .i64 a5), (.slice A6 n6 c6)] 34)
  have hq0 := eq_false hq
  have hd : decide (q1 = 0) = false := decide_eq_false hq
  go_enter Try.func313, Try.ntmps313
  go_wp2
  go_ret
  exact ⟨rfl, HA⟩

set_option maxHeartbeats 8000000 in
set_option maxRecDepth 100000 in
theorem give_no (g : Nat) (A0 : Option Addr) (n0 c0 : Nat) (a1 a2 a3 a4 a5 : Int) (A6 : Option Addr) (n6 c6 : Nat) (q0 q1 : Int) (hq : q1 ≠ 0) (hno : q0 > wrap64 (a3 - beginF a5 q1)) (w : World) (hb : w.heap[g]? = some (.cells #[(.slice A0 n0 c0), (.int .i64 a1), (.int .i64 a2), (.int .i64 a3), (.int .i64 a4), (.int .i64 a5), (.slice A6 n6 c6)] 34 (0, 0))) :
    Calls Try.prog 304 #[.pointer (some ⟨g, 0, none⟩), .agg #[.int .i64 q0, .int .i64 q1]] w fun e w' => e = .returned (.tuple #[.agg #[.int .i64 0, .int .i64 0, .int .i64 0, .int .i64 0], .bool false]) ∧ Below w.heap.size w w' := by
  have hu1 := Try.underlying34
  have hu2 := Try.underlying128
  have hu3 := Try.underlying32
  have hgl := blk_lt hb
  have HA1 := Below.alloc (Below.refl w.heap.size w) (Nat.le_refl _) (.cells #[.int .i64 q0, .int .i64 q1] 128)
  have HA2 := Below.alloc (Below.refl (w.alloc (.cells #[.int .i64 q0, .int .i64 q1] 128)).heap.size (w.alloc (.cells #[.int .i64 q0, .int .i64 q1] 128))) (Nat.le_refl _) (.cells #[.int .i64 0, .int .i64 0, .int .i64 0, .int .i64 0] 32)
  have HB := Aside0.mk (below_step HA1 HA2)
  have BKg := Aside0.mk (blk_below hb HB.out)
  have BK3 := Aside0.mk (blk_below (heap_alloc_new w (.cells #[.int .i64 q0, .int .i64 q1] 128)) HA2)
  have BK4 := Aside0.mk (heap_alloc_new (w.alloc (.cells #[.int .i64 q0, .int .i64 q1] 128)) (.cells #[.int .i64 0, .int .i64 0, .int .i64 0, .int .i64 0] 32))
  have Z1 := Aside0.mk (show w.heap.size + 2 ≤ ((w.alloc (.cells #[.int .i64 q0, .int .i64 q1] 128)).alloc (.cells #[.int .i64 0, .int .i64 0, .int .i64 0, .int .i64 0] 32)).heap.size by simp)
  have HG := Aside0.mk hgl
  rw [show (w.alloc (.cells #[.int .i64 q0, .int .i64 q1] 128)).heap.size = w.heap.size + 1 by simp] at *
  clear HA1 HA2 hb
  go_enter Try.func304, Try.ntmps304
  go_wp2_with fail
  clear hgl
  refine start_ (n := 7) (S := fun w' => w'.cell? ⟨g, 0, none⟩ = some (.slice A0 n0 c0) ∧ w'.cell? ⟨g, 1, none⟩ = some (.int .i64 a1) ∧ w'.cell? ⟨g, 2, none⟩ = some (.int .i64 a2) ∧ w'.cell? ⟨g, 3, none⟩ = some (.int .i64 a3) ∧ w'.cell? ⟨g, 4, none⟩ = some (.int .i64 a4) ∧ w'.cell? ⟨g, 5, none⟩ = some (.int .i64 a5) ∧ w'.cell? ⟨g, 6, none⟩ = some (.slice A6 n6 c6) ∧ w'.cell? ⟨w.heap.size, 1, none⟩ = some (.int .i64 q1)) (ds := []) #[false, false, false, false, false, false, false] (by kernel_rfl) rfl rfl ⟨(blk_cell BKg.out 0).trans rfl, (blk_cell BKg.out 1).trans rfl, (blk_cell BKg.out 2).trans rfl, (blk_cell BKg.out 3).trans rfl, (blk_cell BKg.out 4).trans rfl, (blk_cell BKg.out 5).trans rfl, (blk_cell BKg.out 6).trans rfl, (blk_cell BK3.out 1).trans rfl⟩ (fun hHeld => ?_)
  replace BKg := Aside0.mk (blk_drew BKg.out)
  replace BK3 := Aside0.mk (blk_drew BK3.out)
  replace BK4 := Aside0.mk (blk_drew BK4.out)
  replace HB := Aside0.mk (below_drew1 HB.out)
  replace Z1 := Aside0.mk (show w.heap.size + 2 ≤ ((w.alloc (.cells #[.int .i64 q0, .int .i64 q1] 128)).alloc (.cells #[.int .i64 0, .int .i64 0, .int .i64 0, .int .i64 0] 32)).drew.heap.size from Z1.out)
  generalize ((w.alloc (.cells #[.int .i64 q0, .int .i64 q1] 128)).alloc (.cells #[.int .i64 0, .int .i64 0, .int .i64 0, .int .i64 0] 32)).drew = w4 at BKg BK3 BK4 HB Z1 hHeld ⊢
  refine pure_ (i := 0) (N := some 7) (v := ?_) (a' := ?_) #[true, false, false, false, false, false, false] rfl rfl (by kernel_rfl) (fun _ _ _ h => h) (Or.inl ⟨by rfl, ?_⟩) ?_ ?_
  rotate_left
  · intro w'
    go_simp
    with_reducible rfl
  rotate_left
  · simp only [Act.put, List.setIfInBounds_toArray, List.set_cons_zero, List.set_cons_succ, i64_w, i32_w]
    rfl
  refine pure_ (i := 1) (N := some 8) (v := ?_) (a' := ?_) #[true, true, false, false, false, false, false] rfl rfl (by kernel_rfl) (fun _ _ _ h => h) (Or.inl ⟨by rfl, ?_⟩) ?_ ?_
  rotate_left
  · intro w'
    go_simp
    with_reducible rfl
  rotate_left
  · simp only [Act.put, List.setIfInBounds_toArray, List.set_cons_zero, List.set_cons_succ, i64_w, i32_w]
    rfl
  refine take_ (i := 2) (N := some 9) (v := ?_) (a' := ?_) #[true, true, true, false, false, false, false] rfl rfl (by kernel_rfl) (fun _ _ _ h => h) (Or.inl ⟨by rfl, ?_⟩) hHeld ?_ ?_
  rotate_left
  · rintro w' ⟨s0, s1, s2, s3, s4, s5, s6, s7⟩
    go_simp
    with_reducible rfl
  rotate_left
  · simp only [Act.put, List.setIfInBounds_toArray, List.set_cons_zero, List.set_cons_succ, i64_w, i32_w]
    rfl
  refine pure_ (i := 3) (N := some 10) (v := ?_) (a' := ?_) #[true, true, true, true, false, false, false] rfl rfl (by kernel_rfl) (fun _ _ _ h => h) (Or.inl ⟨by rfl, ?_⟩) ?_ ?_
  rotate_left
  · intro w'
    go_simp
    with_reducible rfl
  rotate_left
  · simp only [Act.put, List.setIfInBounds_toArray, List.set_cons_zero, List.set_cons_succ, i64_w, i32_w]
    rfl
  refine take_ (i := 4) (N := some 11) (v := ?_) (a' := ?_) #[true, true, true, true, true, false, false] rfl rfl (by kernel_rfl) (fun _ _ _ h => h) (Or.inl ⟨by rfl, ?_⟩) hHeld ?_ ?_
  rotate_left
  · rintro w' ⟨s0, s1, s2, s3, s4, s5, s6, s7⟩
    go_simp
    with_reducible rfl
  rotate_left
  · simp only [Act.put, List.setIfInBounds_toArray, List.set_cons_zero, List.set_cons_succ, i64_w, i32_w]
    rfl
  refine one_ (i := 5) (N := some 12) #[true, true, true, true, true, true, false] rfl rfl (by kernel_rfl) (by decide) (fun K hK => ?_)
  refine goes_ Try.func313 (by kernel_rfl) rfl #[.agg #[(.slice A0 n0 c0), (.int .i64 a1), (.int .i64 a2), (.int .i64 a3), (.int .i64 a4), (.int .i64 a5), (.slice A6 n6 c6)], .int .i64 q1] (by rfl) rfl rfl (by (try simp only [List.map_toArray, List.map_cons, List.map_nil]); first | done | rfl) ?_
  refine (begin_at A0 n0 c0 a1 a2 a3 a4 a5 A6 n6 c6 q1 hq w4).mono ?_
  rintro e w5 ⟨rfl, hb⟩
  refine ⟨_, rfl, ?_⟩
  replace BKg := Aside0.mk (blk_below BKg.out hb)
  replace BK3 := Aside0.mk (blk_below BK3.out hb)
  replace BK4 := Aside0.mk (blk_below BK4.out hb)
  replace HB := Aside0.mk (below_step HB.out hb)
  have Z2 := Aside0.mk (below_size hb)
  clear hb
  refine hK.out _ _ ⟨(blk_cell BKg.out 0).trans rfl, (blk_cell BKg.out 1).trans rfl, (blk_cell BKg.out 2).trans rfl, (blk_cell BKg.out 3).trans rfl, (blk_cell BKg.out 4).trans rfl, (blk_cell BKg.out 5).trans rfl, (blk_cell BKg.out 6).trans rfl, (blk_cell BK3.out 1).trans rfl⟩ (fun hHeld => ?_)
  clear hK K
  refine norm_ (a' := ?_) ?_ ?_
  rotate_left
  · show Act.put _ (some 12) _ = _
    simp only [Act.put, List.setIfInBounds_toArray, List.set_cons_zero, List.set_cons_succ, i64_w, i32_w]
    rfl
  refine pure_ (i := 6) (N := some 6) (v := ?_) (a' := ?_) #[true, true, true, true, true, true, true] rfl rfl (by kernel_rfl) (fun _ _ _ h => h) (Or.inl ⟨by rfl, ?_⟩) ?_ ?_
  rotate_left
  · intro w'
    go_simp
    with_reducible rfl
  rotate_left
  · simp only [Act.put, List.setIfInBounds_toArray, List.set_cons_zero, List.set_cons_succ, i64_w, i32_w]
    rfl
  refine done_ (by kernel_rfl) ?_
  clear hHeld
  have hd : decide (q0 > wrap64 (a3 - beginF a5 q1)) = true := decide_eq_true hno
  have y0 : w5.cell? ⟨g, 3, none⟩ = some (.int .i64 a3) := (blk_cell BKg.out 3).trans rfl
  have y1 : w5.cell? ⟨w.heap.size, 0, none⟩ = some (.int .i64 q0) := (blk_cell BK3.out 0).trans rfl
  go_wp2_with fail
  go_quiet (fail)
  clear y0 y1
  have z0 : w5.cell? ⟨w.heap.size + 1, 0, none⟩ = some (.int .i64 0) := (blk_cell BK4.out 0).trans rfl
  have z1 : w5.cell? ⟨w.heap.size + 1, 1, none⟩ = some (.int .i64 0) := (blk_cell BK4.out 1).trans rfl
  have z2 : w5.cell? ⟨w.heap.size + 1, 2, none⟩ = some (.int .i64 0) := (blk_cell BK4.out 2).trans rfl
  have z3 : w5.cell? ⟨w.heap.size + 1, 3, none⟩ = some (.int .i64 0) := (blk_cell BK4.out 3).trans rfl
  have zf0 := blk_frozen BK4.out 0
  have zf1 := blk_frozen BK4.out 1
  have zf2 := blk_frozen BK4.out 2
  have zf3 := blk_frozen BK4.out 3
  have zl := blk_lt BK4.out
  go_wp2_with fail
  refine bodyPost_ret (results_ct rfl _ _ (w.heap.size + 1) 32 #[.int .i64 0, .int .i64 0, .int .i64 0, .int .i64 0] (0, 0) _ rfl (by (with_reducible repeat (first | refine blk_drewN ?_ _ | refine blk_drew ?_ | refine blk_alloc ?_ _)); refine blk_put (cs := #[(.int .i64 0), (.int .i64 0), (.int .i64 0), (.int .i64 0)]) ?_ 3 _ rfl; (with_reducible repeat (first | refine blk_drewN ?_ _ | refine blk_drew ?_ | refine blk_alloc ?_ _)); refine blk_put (cs := #[(.int .i64 0), (.int .i64 0), (.int .i64 0), (.int .i64 0)]) ?_ 2 _ rfl; (with_reducible repeat (first | refine blk_drewN ?_ _ | refine blk_drew ?_ | refine blk_alloc ?_ _)); refine blk_put (cs := #[(.int .i64 0), (.int .i64 0), (.int .i64 0), (.int .i64 0)]) ?_ 1 _ rfl; (with_reducible repeat (first | refine blk_drewN ?_ _ | refine blk_drew ?_ | refine blk_alloc ?_ _)); refine blk_put (cs := #[(.int .i64 0), (.int .i64 0), (.int .i64 0), (.int .i64 0)]) ?_ 0 _ rfl; (with_reducible repeat (first | refine blk_drewN ?_ _ | refine blk_drew ?_ | refine blk_alloc ?_ _)); exact BK4.out) Try.underlying32 rfl (by kernel_rfl)) rfl ?_
  exact ⟨rfl, by repeat (first | (with_reducible first | exact HB.out | refine below_set ?_ (Nat.le_succ _) | apply below_alloc | apply pw_below_drewN | apply below_drew1) | exact HB.out)⟩

theorem grown_below {w w' : World} (hb : Below w.heap.size w w') : w.grownBy w' none := ⟨hb.os, hb.tape, hb.output, below_size hb, fun k hk _ => hb.block k hk⟩

theorem grown_but {w w' : World} (h : w.grownBy w' none) (row : Option Nat) : w.grownBy w' row := ⟨h.os, h.tape, h.output, h.size, fun i hi _ => h.block i hi (by simp)⟩

set_option maxHeartbeats 8000000 in
set_option maxRecDepth 100000 in
theorem give_yes (g : Nat) (A0 : Option Addr) (n0 c0 : Nat) (a1 a2 a3 a4 a5 : Int) (A6 : Option Addr) (n6 c6 : Nat) (q0 q1 : Int) (hq : q1 ≠ 0) (hyes : ¬ q0 > wrap64 (a3 - beginF a5 q1)) (w : World) (hb : w.heap[g]? = some (.cells #[(.slice A0 n0 c0), (.int .i64 a1), (.int .i64 a2), (.int .i64 a3), (.int .i64 a4), (.int .i64 a5), (.slice A6 n6 c6)] 34 (0, 0))) :
    Calls Try.prog 304 #[.pointer (some ⟨g, 0, none⟩), .agg #[.int .i64 q0, .int .i64 q1]] w fun e w' => e = .returned (.tuple #[.agg #[.int .i64 a1, .int .i64 (wrap64 (a2 + beginF a5 q1)), .int .i64 q0, .int .i64 q0], .bool true]) ∧ w'.heap[g]? = some (.cells #[(.slice A0 n0 c0), (.int .i64 a1), (.int .i64 a2), (.int .i64 a3), (.int .i64 a4), (.int .i64 (wrap64 (beginF a5 q1 + q0))), (.slice A6 n6 c6)] 34 (0, 0)) ∧ w.grownBy w' (some g) := by
  have hu1 := Try.underlying34
  have hu2 := Try.underlying128
  have hu3 := Try.underlying32
  have hgl := blk_lt hb
  have HA1 := Below.alloc (Below.refl w.heap.size w) (Nat.le_refl _) (.cells #[.int .i64 q0, .int .i64 q1] 128)
  have HA2 := Below.alloc (Below.refl (w.alloc (.cells #[.int .i64 q0, .int .i64 q1] 128)).heap.size (w.alloc (.cells #[.int .i64 q0, .int .i64 q1] 128))) (Nat.le_refl _) (.cells #[.int .i64 0, .int .i64 0, .int .i64 0, .int .i64 0] 32)
  have HB := Aside0.mk (below_step HA1 HA2)
  have BKg := Aside0.mk (blk_below hb HB.out)
  have BK3 := Aside0.mk (blk_below (heap_alloc_new w (.cells #[.int .i64 q0, .int .i64 q1] 128)) HA2)
  have BK4 := Aside0.mk (heap_alloc_new (w.alloc (.cells #[.int .i64 q0, .int .i64 q1] 128)) (.cells #[.int .i64 0, .int .i64 0, .int .i64 0, .int .i64 0] 32))
  have Z1 := Aside0.mk (show w.heap.size + 2 ≤ ((w.alloc (.cells #[.int .i64 q0, .int .i64 q1] 128)).alloc (.cells #[.int .i64 0, .int .i64 0, .int .i64 0, .int .i64 0] 32)).heap.size by simp)
  have HG := Aside0.mk hgl
  rw [show (w.alloc (.cells #[.int .i64 q0, .int .i64 q1] 128)).heap.size = w.heap.size + 1 by simp] at *
  clear HA1 HA2 hb
  go_enter Try.func304, Try.ntmps304
  go_wp2_with fail
  clear hgl
  refine start_ (n := 7) (S := fun w' => w'.cell? ⟨g, 0, none⟩ = some (.slice A0 n0 c0) ∧ w'.cell? ⟨g, 1, none⟩ = some (.int .i64 a1) ∧ w'.cell? ⟨g, 2, none⟩ = some (.int .i64 a2) ∧ w'.cell? ⟨g, 3, none⟩ = some (.int .i64 a3) ∧ w'.cell? ⟨g, 4, none⟩ = some (.int .i64 a4) ∧ w'.cell? ⟨g, 5, none⟩ = some (.int .i64 a5) ∧ w'.cell? ⟨g, 6, none⟩ = some (.slice A6 n6 c6) ∧ w'.cell? ⟨w.heap.size, 1, none⟩ = some (.int .i64 q1)) (ds := []) #[false, false, false, false, false, false, false] (by kernel_rfl) rfl rfl ⟨(blk_cell BKg.out 0).trans rfl, (blk_cell BKg.out 1).trans rfl, (blk_cell BKg.out 2).trans rfl, (blk_cell BKg.out 3).trans rfl, (blk_cell BKg.out 4).trans rfl, (blk_cell BKg.out 5).trans rfl, (blk_cell BKg.out 6).trans rfl, (blk_cell BK3.out 1).trans rfl⟩ (fun hHeld => ?_)
  replace BKg := Aside0.mk (blk_drew BKg.out)
  replace BK3 := Aside0.mk (blk_drew BK3.out)
  replace BK4 := Aside0.mk (blk_drew BK4.out)
  replace HB := Aside0.mk (below_drew1 HB.out)
  replace Z1 := Aside0.mk (show w.heap.size + 2 ≤ ((w.alloc (.cells #[.int .i64 q0, .int .i64 q1] 128)).alloc (.cells #[.int .i64 0, .int .i64 0, .int .i64 0, .int .i64 0] 32)).drew.heap.size from Z1.out)
  generalize ((w.alloc (.cells #[.int .i64 q0, .int .i64 q1] 128)).alloc (.cells #[.int .i64 0, .int .i64 0, .int .i64 0, .int .i64 0] 32)).drew = w4 at BKg BK3 BK4 HB Z1 hHeld ⊢
  refine pure_ (i := 0) (N := some 7) (v := ?_) (a' := ?_) #[true, false, false, false, false, false, false] rfl rfl (by kernel_rfl) (fun _ _ _ h => h) (Or.inl ⟨by rfl, ?_⟩) ?_ ?_
  rotate_left
  · intro w'
    go_simp
    with_reducible rfl
  rotate_left
  · simp only [Act.put, List.setIfInBounds_toArray, List.set_cons_zero, List.set_cons_succ, i64_w, i32_w]
    rfl
  refine pure_ (i := 1) (N := some 8) (v := ?_) (a' := ?_) #[true, true, false, false, false, false, false] rfl rfl (by kernel_rfl) (fun _ _ _ h => h) (Or.inl ⟨by rfl, ?_⟩) ?_ ?_
  rotate_left
  · intro w'
    go_simp
    with_reducible rfl
  rotate_left
  · simp only [Act.put, List.setIfInBounds_toArray, List.set_cons_zero, List.set_cons_succ, i64_w, i32_w]
    rfl
  refine take_ (i := 2) (N := some 9) (v := ?_) (a' := ?_) #[true, true, true, false, false, false, false] rfl rfl (by kernel_rfl) (fun _ _ _ h => h) (Or.inl ⟨by rfl, ?_⟩) hHeld ?_ ?_
  rotate_left
  · rintro w' ⟨s0, s1, s2, s3, s4, s5, s6, s7⟩
    go_simp
    with_reducible rfl
  rotate_left
  · simp only [Act.put, List.setIfInBounds_toArray, List.set_cons_zero, List.set_cons_succ, i64_w, i32_w]
    rfl
  refine pure_ (i := 3) (N := some 10) (v := ?_) (a' := ?_) #[true, true, true, true, false, false, false] rfl rfl (by kernel_rfl) (fun _ _ _ h => h) (Or.inl ⟨by rfl, ?_⟩) ?_ ?_
  rotate_left
  · intro w'
    go_simp
    with_reducible rfl
  rotate_left
  · simp only [Act.put, List.setIfInBounds_toArray, List.set_cons_zero, List.set_cons_succ, i64_w, i32_w]
    rfl
  refine take_ (i := 4) (N := some 11) (v := ?_) (a' := ?_) #[true, true, true, true, true, false, false] rfl rfl (by kernel_rfl) (fun _ _ _ h => h) (Or.inl ⟨by rfl, ?_⟩) hHeld ?_ ?_
  rotate_left
  · rintro w' ⟨s0, s1, s2, s3, s4, s5, s6, s7⟩
    go_simp
    with_reducible rfl
  rotate_left
  · simp only [Act.put, List.setIfInBounds_toArray, List.set_cons_zero, List.set_cons_succ, i64_w, i32_w]
    rfl
  refine one_ (i := 5) (N := some 12) #[true, true, true, true, true, true, false] rfl rfl (by kernel_rfl) (by decide) (fun K hK => ?_)
  refine goes_ Try.func313 (by kernel_rfl) rfl #[.agg #[(.slice A0 n0 c0), (.int .i64 a1), (.int .i64 a2), (.int .i64 a3), (.int .i64 a4), (.int .i64 a5), (.slice A6 n6 c6)], .int .i64 q1] (by rfl) rfl rfl (by (try simp only [List.map_toArray, List.map_cons, List.map_nil]); first | done | rfl) ?_
  refine (begin_at A0 n0 c0 a1 a2 a3 a4 a5 A6 n6 c6 q1 hq w4).mono ?_
  rintro e w5 ⟨rfl, hb⟩
  refine ⟨_, rfl, ?_⟩
  replace BKg := Aside0.mk (blk_below BKg.out hb)
  replace BK3 := Aside0.mk (blk_below BK3.out hb)
  replace BK4 := Aside0.mk (blk_below BK4.out hb)
  replace HB := Aside0.mk (below_step HB.out hb)
  have Z2 := Aside0.mk (below_size hb)
  clear hb
  refine hK.out _ _ ⟨(blk_cell BKg.out 0).trans rfl, (blk_cell BKg.out 1).trans rfl, (blk_cell BKg.out 2).trans rfl, (blk_cell BKg.out 3).trans rfl, (blk_cell BKg.out 4).trans rfl, (blk_cell BKg.out 5).trans rfl, (blk_cell BKg.out 6).trans rfl, (blk_cell BK3.out 1).trans rfl⟩ (fun hHeld => ?_)
  clear hK K
  refine norm_ (a' := ?_) ?_ ?_
  rotate_left
  · show Act.put _ (some 12) _ = _
    simp only [Act.put, List.setIfInBounds_toArray, List.set_cons_zero, List.set_cons_succ, i64_w, i32_w]
    rfl
  refine pure_ (i := 6) (N := some 6) (v := ?_) (a' := ?_) #[true, true, true, true, true, true, true] rfl rfl (by kernel_rfl) (fun _ _ _ h => h) (Or.inl ⟨by rfl, ?_⟩) ?_ ?_
  rotate_left
  · intro w'
    go_simp
    with_reducible rfl
  rotate_left
  · simp only [Act.put, List.setIfInBounds_toArray, List.set_cons_zero, List.set_cons_succ, i64_w, i32_w]
    rfl
  refine done_ (by kernel_rfl) ?_
  clear hHeld
  have hd : decide (q0 > wrap64 (a3 - beginF a5 q1)) = false := decide_eq_false (by omega)
  have y0 : w5.cell? ⟨g, 3, none⟩ = some (.int .i64 a3) := (blk_cell BKg.out 3).trans rfl
  have y1 : w5.cell? ⟨w.heap.size, 0, none⟩ = some (.int .i64 q0) := (blk_cell BK3.out 0).trans rfl
  go_wp2_with fail
  go_quiet (fail)
  clear y0 y1
  have y5 : w5.cell? ⟨g, 5, none⟩ = some (.int .i64 a5) := (blk_cell BKg.out 5).trans rfl
  have yf := blk_frozen BKg.out 5
  have y1 : w5.cell? ⟨w.heap.size, 0, none⟩ = some (.int .i64 q0) := (blk_cell BK3.out 0).trans rfl
  have yl := blk_lt BKg.out
  have y3 := blk_lt BK3.out
  have yn1 : g ≠ w.heap.size := Nat.ne_of_lt HG.out
  have yn2 : w.heap.size ≠ g := Nat.ne_of_gt HG.out
  go_wp2_with fail
  replace BKg := Aside0.mk (blk_put (cs' := #[(.slice A0 n0 c0), (.int .i64 a1), (.int .i64 a2), (.int .i64 a3), (.int .i64 a4), (.int .i64 (wrap64 (beginF a5 q1 + q0))), (.slice A6 n6 c6)]) (blk_drewN BKg.out nq) 5 (.int .i64 (wrap64 (beginF a5 q1 + q0))) rfl)
  replace BK3 := Aside0.mk (blk_far (p := ⟨g, 5, none⟩) (blk_drewN BK3.out nq) yn2 (.int .i64 (wrap64 (beginF a5 q1 + q0))))
  replace BK4 := Aside0.mk (blk_far (p := ⟨g, 5, none⟩) (blk_drewN BK4.out nq) (Nat.ne_of_gt (Nat.lt_succ_of_lt HG.out)) (.int .i64 (wrap64 (beginF a5 q1 + q0))))
  have HGr := Aside0.mk (show w.grownBy ((w5.drewN nq).setCell ⟨g, 5, none⟩ (.int .i64 (wrap64 (beginF a5 q1 + q0)))) (some g) from
    (grown_but (grown_below (pw_below_drewN HB.out nq)) (some g)).trans ⟨rfl, rfl, rfl, by simp [World.setCell], fun k _ hne => Below.heap_setCell _ _ _ k (fun e => hne (by rw [e]))⟩)
  have Z5 := Aside0.mk (show w.heap.size + 2 ≤ ((w5.drewN nq).setCell ⟨g, 5, none⟩ (.int .i64 (wrap64 (beginF a5 q1 + q0)))).heap.size by have := Z1.out; have := Z2.out; simp [World.setCell]; omega)
  clear y5 yf y1 yl y3 Z1 Z2 HB
  generalize (w5.drewN nq).setCell ⟨g, 5, none⟩ (.int .i64 (wrap64 (beginF a5 q1 + q0))) = w6 at BKg BK3 BK4 HGr Z5 ⊢
  refine start_ (n := 10) (S := fun w' => w'.cell? ⟨g, 1, none⟩ = some (.int .i64 a1) ∧ w'.cell? ⟨g, 2, none⟩ = some (.int .i64 a2) ∧ w'.cell? ⟨g, 3, none⟩ = some (.int .i64 a3) ∧ w'.cell? ⟨g, 4, none⟩ = some (.int .i64 a4) ∧ w'.cell? ⟨w.heap.size, 0, none⟩ = some (.int .i64 q0)) (ds := [8]) #[false, false, false, false, false, false, false, false, false, false] (by kernel_rfl) rfl rfl ⟨(blk_cell BKg.out 1).trans rfl, (blk_cell BKg.out 2).trans rfl, (blk_cell BKg.out 3).trans rfl, (blk_cell BKg.out 4).trans rfl, (blk_cell BK3.out 0).trans rfl⟩ (fun hHeld => ?_)
  replace BKg := Aside0.mk (blk_drew BKg.out)
  replace BK3 := Aside0.mk (blk_drew BK3.out)
  replace BK4 := Aside0.mk (blk_drew BK4.out)
  replace HGr := Aside0.mk (show w.grownBy w6.drew (some g) from ⟨HGr.out.os, HGr.out.tape, HGr.out.output, HGr.out.size, HGr.out.block⟩)
  replace Z5 := Aside0.mk (show w.heap.size + 2 ≤ w6.drew.heap.size from Z5.out)
  generalize w6.drew = w7 at BKg BK3 BK4 HGr Z5 hHeld ⊢
  refine pure_ (i := 0) (N := some 31) (v := ?_) (a' := ?_) #[true, false, false, false, false, false, false, false, false, false] rfl rfl (by kernel_rfl) (fun _ _ _ h => h) (Or.inl ⟨by rfl, ?_⟩) ?_ ?_
  rotate_left
  · intro w'
    go_simp
    with_reducible rfl
  rotate_left
  · simp only [Act.put, List.setIfInBounds_toArray, List.set_cons_zero, List.set_cons_succ, i64_w, i32_w]
    rfl
  refine pure_ (i := 1) (N := some 32) (v := ?_) (a' := ?_) #[true, true, false, false, false, false, false, false, false, false] rfl rfl (by kernel_rfl) (fun _ _ _ h => h) (Or.inl ⟨by rfl, ?_⟩) ?_ ?_
  rotate_left
  · intro w'
    go_simp
    with_reducible rfl
  rotate_left
  · simp only [Act.put, List.setIfInBounds_toArray, List.set_cons_zero, List.set_cons_succ, i64_w, i32_w]
    rfl
  refine pure_ (i := 2) (N := some 33) (v := ?_) (a' := ?_) #[true, true, true, false, false, false, false, false, false, false] rfl rfl (by kernel_rfl) (fun _ _ _ h => h) (Or.inl ⟨by rfl, ?_⟩) ?_ ?_
  rotate_left
  · intro w'
    go_simp
    with_reducible rfl
  rotate_left
  · simp only [Act.put, List.setIfInBounds_toArray, List.set_cons_zero, List.set_cons_succ, i64_w, i32_w]
    rfl
  refine take_ (i := 3) (N := some 34) (v := ?_) (a' := ?_) #[true, true, true, true, false, false, false, false, false, false] rfl rfl (by kernel_rfl) (fun _ _ _ h => h) (Or.inl ⟨by rfl, ?_⟩) hHeld ?_ ?_
  rotate_left
  · rintro w' ⟨s0, s1, s2, s3, s4⟩
    go_simp
    with_reducible rfl
  rotate_left
  · simp only [Act.put, List.setIfInBounds_toArray, List.set_cons_zero, List.set_cons_succ, i64_w, i32_w]
    rfl
  refine pure_ (i := 4) (N := some 35) (v := ?_) (a' := ?_) #[true, true, true, true, true, false, false, false, false, false] rfl rfl (by kernel_rfl) (fun _ _ _ h => h) (Or.inl ⟨by rfl, ?_⟩) ?_ ?_
  rotate_left
  · intro w'
    go_simp
    with_reducible rfl
  rotate_left
  · simp only [Act.put, List.setIfInBounds_toArray, List.set_cons_zero, List.set_cons_succ, i64_w, i32_w]
    rfl
  refine pure_ (i := 5) (N := some 36) (v := ?_) (a' := ?_) #[true, true, true, true, true, true, false, false, false, false] rfl rfl (by kernel_rfl) (fun _ _ _ h => h) (Or.inl ⟨by rfl, ?_⟩) ?_ ?_
  rotate_left
  · intro w'
    go_simp
    with_reducible rfl
  rotate_left
  · simp only [Act.put, List.setIfInBounds_toArray, List.set_cons_zero, List.set_cons_succ, i64_w, i32_w]
    rfl
  refine take_ (i := 6) (N := some 37) (v := ?_) (a' := ?_) #[true, true, true, true, true, true, true, false, false, false] rfl rfl (by kernel_rfl) (fun _ _ _ h => h) (Or.inl ⟨by rfl, ?_⟩) hHeld ?_ ?_
  rotate_left
  · rintro w' ⟨s0, s1, s2, s3, s4⟩
    go_simp
    with_reducible rfl
  rotate_left
  · simp only [Act.put, List.setIfInBounds_toArray, List.set_cons_zero, List.set_cons_succ, i64_w, i32_w]
    rfl
  refine one_ (i := 7) (N := some 38) #[true, true, true, true, true, true, true, true, false, false] rfl rfl (by kernel_rfl) (by decide) (fun K hK => ?_)
  refine goes_ Try.func187 (by kernel_rfl) rfl #[.agg #[.int .i64 a1, .int .i64 a2, .int .i64 a3, .int .i64 a4], .int .i64 (beginF a5 q1), .int .i64 q0] (by rfl) rfl rfl (by (try simp only [List.map_toArray, List.map_cons, List.map_nil]); first | done | rfl) ?_
  refine (impl_Window_part.calls a1 a2 a3 a4 (beginF a5 q1) q0 a1 (wrap64 (a2 + beginF a5 q1)) q0 q0 w7 rfl).mono ?_
  rintro e w8 ⟨rfl, hb⟩
  refine ⟨_, rfl, ?_⟩
  replace BKg := Aside0.mk (blk_below BKg.out hb)
  replace BK3 := Aside0.mk (blk_below BK3.out hb)
  replace BK4 := Aside0.mk (blk_below BK4.out hb)
  replace HGr := Aside0.mk (HGr.out.trans (grown_but (grown_below hb) (some g)))
  have Z4 := Aside0.mk (below_size hb)
  clear hb
  refine hK.out _ _ ⟨(blk_cell BKg.out 1).trans rfl, (blk_cell BKg.out 2).trans rfl, (blk_cell BKg.out 3).trans rfl, (blk_cell BKg.out 4).trans rfl, (blk_cell BK3.out 0).trans rfl⟩ (fun hHeld => ?_)
  clear hK K
  refine norm_ (a' := ?_) ?_ ?_
  rotate_left
  · show Act.put _ (some 38) _ = _
    simp only [Act.put, List.setIfInBounds_toArray, List.set_cons_zero, List.set_cons_succ, i64_w, i32_w]
    rfl
  have z0 : w8.cell? ⟨w.heap.size + 1, 0, none⟩ = some (.int .i64 0) := (blk_cell BK4.out 0).trans rfl
  have z1 : w8.cell? ⟨w.heap.size + 1, 1, none⟩ = some (.int .i64 0) := (blk_cell BK4.out 1).trans rfl
  have z2 : w8.cell? ⟨w.heap.size + 1, 2, none⟩ = some (.int .i64 0) := (blk_cell BK4.out 2).trans rfl
  have z3 : w8.cell? ⟨w.heap.size + 1, 3, none⟩ = some (.int .i64 0) := (blk_cell BK4.out 3).trans rfl
  have zf0 := blk_frozen BK4.out 0
  have zf1 := blk_frozen BK4.out 1
  have zf2 := blk_frozen BK4.out 2
  have zf3 := blk_frozen BK4.out 3
  have zl := blk_lt BK4.out
  refine last_ (i := 8) (N := none) #[true, true, true, true, true, true, true, true, true, false] rfl rfl (by kernel_rfl) (by decide) (fun K hK => ?_)
  refine skip_ (w1 := ?_) (by rfl) rfl ?_ ?_
  rotate_left
  · go_simp
    rfl
  refine hK.out _ _ ?_
  clear hK K
  refine pure_ (i := 9) (N := some 5) (v := ?_) (a' := ?_) #[true, true, true, true, true, true, true, true, true, true] rfl rfl (by kernel_rfl) (fun _ _ _ h => h) (Or.inl ⟨by rfl, ?_⟩) ?_ ?_
  rotate_left
  · intro w'
    go_simp
    with_reducible rfl
  rotate_left
  · simp only [Act.put, List.setIfInBounds_toArray, List.set_cons_zero, List.set_cons_succ, i64_w, i32_w]
    rfl
  refine done_ (by kernel_rfl) ?_
  go_wp2_with fail
  refine bodyPost_ret (results_ct rfl _ _ (w.heap.size + 1) 32 #[(.int .i64 a1), (.int .i64 (wrap64 (a2 + beginF a5 q1))), (.int .i64 q0), (.int .i64 q0)] (0, 0) _ rfl (by (with_reducible repeat (first | refine blk_drewN ?_ _ | refine blk_drew ?_ | refine blk_alloc ?_ _)); refine blk_put (cs := #[(.int .i64 a1), (.int .i64 (wrap64 (a2 + beginF a5 q1))), (.int .i64 q0), (.int .i64 0)]) ?_ 3 _ rfl; (with_reducible repeat (first | refine blk_drewN ?_ _ | refine blk_drew ?_ | refine blk_alloc ?_ _)); refine blk_put (cs := #[(.int .i64 a1), (.int .i64 (wrap64 (a2 + beginF a5 q1))), (.int .i64 0), (.int .i64 0)]) ?_ 2 _ rfl; (with_reducible repeat (first | refine blk_drewN ?_ _ | refine blk_drew ?_ | refine blk_alloc ?_ _)); refine blk_put (cs := #[(.int .i64 a1), (.int .i64 0), (.int .i64 0), (.int .i64 0)]) ?_ 1 _ rfl; (with_reducible repeat (first | refine blk_drewN ?_ _ | refine blk_drew ?_ | refine blk_alloc ?_ _)); refine blk_put (cs := #[(.int .i64 0), (.int .i64 0), (.int .i64 0), (.int .i64 0)]) ?_ 0 _ rfl; (with_reducible repeat (first | refine blk_drewN ?_ _ | refine blk_drew ?_ | refine blk_alloc ?_ _)); exact BK4.out) Try.underlying32 rfl (by kernel_rfl)) rfl ?_
  have hne := Nat.ne_of_lt (Nat.lt_succ_of_lt HG.out)
  have hst : ∀ (W : World) (j : Nat) (u : Value), w.grownBy W (some g) → w.grownBy (W.setCell ⟨w.heap.size + 1, j, none⟩ u) (some g) := fun W j u hW => ⟨hW.os, hW.tape, hW.output, by have := hW.size; simpa [World.setCell] using this, fun k hk hn => (Below.heap_setCell _ _ _ k (by show k ≠ w.heap.size + 1; omega)).trans (hW.block k hk hn)⟩
  exact ⟨rfl, blk_far (p := ⟨w.heap.size + 1, 3, none⟩) (blk_far (p := ⟨w.heap.size + 1, 2, none⟩) (blk_far (p := ⟨w.heap.size + 1, 1, none⟩) (blk_far (p := ⟨w.heap.size + 1, 0, none⟩) BKg.out hne _) hne _) hne _) hne _, hst _ _ _ (hst _ _ _ (hst _ _ _ (hst _ _ _ HGr.out)))⟩
end Go.Proofs.Ythlppjdlljofdaa.P
namespace Go.Proofs.Ythlppjdlljofdaa.P
open Go.RowKit Go.Proofs.YthlppjdlljofdaaW.PrintWords Go.Proofs.YthlppjdlljofdaaW.PrintLast Go.Proofs.YthlppjdlljofdaaW.PrintMore
set_option linter.unusedVariables false
set_option linter.unusedSimpArgs false

/-- Giving one behind the other: the number of used bytes, the windows, and whether there was room for all. -/
def giveRun (a1 a2 a3 : Int) : List S128 → Int → List S32 → Int × List S32 × Bool
  | [], u, out => (u, out, true)
  | q :: qs, u, out => if q.f0 > wrap64 (a3 - beginF u q.f1) then (u, [], false) else giveRun a1 a2 a3 qs (wrap64 (beginF u q.f1 + q.f0)) (out ++ [⟨a1, wrap64 (a2 + beginF u q.f1), q.f0, q.f0⟩])

set_option maxHeartbeats 8000000 in
set_option maxRecDepth 100000 in
theorem giveAll_calls (g : Nat) (A0 : Option Addr) (n0 c0 : Nat) (a1 a2 a3 a4 a5 : Int) (A6 : Option Addr) (n6 c6 : Nat) (A1 : Option Addr) (c1 : Nat) (l1 : List S128) (w0 w : World) (hB : Below w0.heap.size w0 w) (hg0 : w0.heap.size ≤ g)
    (hb : w.heap[g]? = some (.cells #[.slice A0 n0 c0, .int .i64 a1, .int .i64 a2, .int .i64 a3, .int .i64 a4, .int .i64 a5, .slice A6 n6 c6] 34 (0, 0))) (hR : Kd.C k128 w0 A1 l1.length l1) (hq : ∀ q ∈ l1, q.f1 ≠ 0) (hl : l1.length ≤ 1048576) :
    Calls Try.prog 284 #[.pointer (some ⟨g, 0, none⟩), .slice A1 l1.length c1] w fun e w' => ∃ v, e = .returned (.tuple #[v, .bool (giveRun a1 a2 a3 l1 a5 []).2.2]) ∧ Kd.R k32 32 w' w.heap.size (fun _ => True) v (giveRun a1 a2 a3 l1 a5 []).2.1 ∧
      w'.heap[g]? = some (.cells #[.slice A0 n0 c0, .int .i64 a1, .int .i64 a2, .int .i64 a3, .int .i64 a4, .int .i64 (giveRun a1 a2 a3 l1 a5 []).1, .slice A6 n6 c6] 34 (0, 0)) ∧ w.grownBy w' (some g) := by
  have hu1 := Try.underlying34
  have hu2 := Try.underlying128
  have hu3 := Try.underlying32
  have HG := Aside0.mk (blk_lt hb)
  have HG0 := Aside0.mk hg0
  have HR := Aside0.mk hR
  have HBK := Aside0.mk hb
  have HB0 := Aside0.mk hB
  have HQ := Aside0.mk hq
  clear hB hg0 hb hR hq
  go_enter Try.func284, Try.ntmps284
  go_wp2_with (first | ((with_reducible refine gate_dst (N := 11) rfl ?_); refine Kd.R_lit k32 _ 32 ?hg (N := 11) ?hd (xs := ([] : List S32)) (inner := []) (ok := fun _ => True) (okp := fun _ => True) ?hr ?hp (fun _ hk => hk) trivial (Below.refl _ _) (Nat.le_refl _) (by simp) ?_; (case hd => rfl); (case hg => rfl); (case hr => first | (go_simp; done) | (go_simp; rfl)); (case hp => exact Reps.none _ _); intro v0 w1 ho hb1 hg1 hn1; have HO := Aside0.mk ho; have HGr := Aside0.mk (grown_but hg1 (some g)); have HBK1 := Aside0.mk ((hg1.block g HG.out (by simp)).trans HBK.out); clear ho hb1 hg1 hn1))
  go_loopg [6, 14] l1.length (fun gg s6 s14 wr => ∃ (i : Nat) (u : Int) (out : List S32), s14 = .int .i64 (i : Int) ∧ Aside0 (i ≤ l1.length) ∧ Aside0 (l1.length ≤ gg + i) ∧ Aside0 (giveRun a1 a2 a3 l1 a5 [] = giveRun a1 a2 a3 (l1.drop i) u out) ∧ Aside0 (out.length = i) ∧ Aside0 (wr.heap[g]? = some (.cells #[.slice A0 n0 c0, .int .i64 a1, .int .i64 a2, .int .i64 a3, .int .i64 a4, .int .i64 u, .slice A6 n6 c6] 34 (0, 0))) ∧ Aside0 (Kd.R k32 32 wr w.heap.size (fun _ => True) s6 out) ∧ Aside0 (w.grownBy wr (some g)))
  case atStart => exact ⟨0, a5, [], rfl, ⟨by omega⟩, ⟨by omega⟩, ⟨rfl⟩, ⟨rfl⟩, HBK1, HO, HGr⟩
  case round =>
    clear HBK1 HO HGr
    obtain ⟨i, u, out, rfl, H0, H1, HI, HL, HBK, HO, HGr⟩ := hrel
    have HB1 := Aside0.mk (show Below w0.heap.size w0 wr from ⟨HGr.out.os.trans HB0.out.os, HGr.out.tape.trans HB0.out.tape, HGr.out.output.trans HB0.out.output, Nat.le_trans HB0.out.size HGr.out.size, fun k hk => (HGr.out.block k (Nat.lt_of_lt_of_le hk HB0.out.size) (fun e => by have := HG0.out; cases e; omega)).trans (HB0.out.block k hk)⟩)
    by_cases hlt : i < l1.length
    · have hd : decide ((i : Int) < (l1.length : Int)) = true := decide_eq_true (by omega)
      obtain ⟨ad, e, hx0, hx1⟩ := at_T128 (Kd.C_below HR.out HB1.out) (i : Int) (by omega) (by omega)
      cases e
      have hget : rd_T128 l1 (i : Int) = l1[i] := by unfold rd_T128; rw [Int.toNat_natCast, List.getD_eq_getElem?_getD, List.getElem?_eq_getElem hlt]; rfl
      rw [hget] at hx0 hx1
      rw [Int.toNat_natCast] at hx0 hx1
      have hqi := HQ.out _ (List.getElem_mem hlt)
      have hlti : ((i : Int) < (l1.length : Int)) = True := eq_true (by omega)
      have hnn : (0 ≤ (i : Int)) = True := eq_true (by omega)
      generalize hqe : l1[i] = q at hx0 hx1 hqi
      have HQE := Aside0.mk hqe
      clear hqe hget
      go_wp2_with fail
      have HA := Below.alloc (Below.refl wr.heap.size wr) (Nat.le_refl _) (.cells #[.int .i64 q.f0, .int .i64 q.f1] 128)
      have HBKa := blk_below HBK.out HA
      have HOa := Aside0.mk (Kd.R_below HO.out HA)
      have HGa := Aside0.mk (HGr.out.trans (grown_but (grown_below HA) (some g)))
      have Z1 := Aside0.mk (show w.heap.size ≤ (wr.alloc (.cells #[.int .i64 q.f0, .int .i64 q.f1] 128)).heap.size from HGa.out.size)
      clear HA
      have hstep : giveRun a1 a2 a3 (l1.drop i) u out = if q.f0 > wrap64 (a3 - beginF u q.f1) then (u, [], false) else giveRun a1 a2 a3 (l1.drop (i + 1)) (wrap64 (beginF u q.f1 + q.f0)) (out ++ [⟨a1, wrap64 (a2 + beginF u q.f1), q.f0, q.f0⟩]) := by
        rw [List.drop_eq_getElem_cons hlt, HQE.out]
        rfl
      have HS := Aside0.mk hstep
      clear hstep
      by_cases hno : q.f0 > wrap64 (a3 - beginF u q.f1)
      · have e1 := HI.out.trans (HS.out.trans (if_pos hno))
        refine (give_no g A0 n0 c0 a1 a2 a3 a4 u A6 n6 c6 q.f0 q.f1 hqi hno _ HBKa).mono ?_
        rintro e w' ⟨rfl, hb⟩
        have HBK2 := Aside0.mk (blk_below HBKa hb)
        have HG2 := Aside0.mk (HGa.out.trans (grown_but (grown_below hb) (some g)))
        clear hb HBKa HBK HGr HO HOa
        have HE := Aside0.mk e1
        clear e1 HI HS
        go_wp2_with fail
        go_ret2
        rw [HE.out]
        exact ⟨_, rfl, Kd.R_nil _ _ _ _ _, by (with_reducible repeat (first | refine blk_drewN ?_ _ | refine blk_drew ?_ | refine blk_alloc ?_ _)); exact HBK2.out, HG2.out.trans (grown_but (grown_below (by repeat (first | (with_reducible first | exact Below.refl _ _ | apply below_alloc | apply pw_below_drewN | apply below_drew1) | exact Below.refl _ _))) (some g))⟩
      · have e1 := HI.out.trans (HS.out.trans (if_neg hno))
        refine (give_yes g A0 n0 c0 a1 a2 a3 a4 u A6 n6 c6 q.f0 q.f1 hqi hno _ HBKa).mono ?_
        rintro e w' ⟨rfl, hbk, hg⟩
        have HBK2 := Aside0.mk hbk
        have HO2 := Aside0.mk (Kd.R_over' (v := .slice (some ⟨g, 0, none⟩) 0 0) HOa.out (fun k hk => by cases hk; exact ⟨_, HBKa⟩) (by decide) hg)
        have HG2 := Aside0.mk (HGa.out.trans hg)
        have HE := Aside0.mk e1
        clear hbk hg HBKa HBK HGr HO HOa e1 HI HS hno
        have HAw := Below.alloc (Below.refl w'.heap.size w') (Nat.le_refl _) (.cells #[.int .i64 a1, .int .i64 (wrap64 (a2 + beginF u q.f1)), .int .i64 q.f0, .int .i64 q.f0] 32)
        have HO3 := Aside0.mk (Kd.R_below HO2.out HAw)
        have HBK3 := Aside0.mk (blk_below HBK2.out HAw)
        have HG3 := Aside0.mk (HG2.out.trans (grown_but (grown_below HAw) (some g)))
        clear HAw HO2 HBK2 HG2
        have hlen : (out.length + 1) * 32 ≤ 140737488355328 := by have := HL.out; omega
        have HLen := Aside0.mk hlen
        clear hlen
        go_wp2_with (first | ((with_reducible refine gate_builtin (b := .append) (xs := #[.tmp 26, .tmp 28]) rfl ?_); at_builtin; refine Kd.R_append k32 w.heap.size rfl (.tmp 26) (.tmp 28) 45 32 (.agg #[(.int .i64 0), (.int .i64 0), (.int .i64 0), (.int .i64 0)]) 32 rfl Try.underlying45 info32 rfl (by decide) (by omega) u6 out (⟨a1, wrap64 (a2 + beginF u q.f1), q.f0, q.f0⟩ : S32) [.int .i64 a1, .int .i64 (wrap64 (a2 + beginF u q.f1)), .int .i64 q.f0, .int .i64 q.f0] (fun _ => True) (fun _ => False) rfl (by first | (go_simp; done) | (go_simp; rfl)) ?aP (fun _ hk => hk.elim) (fun _ _ => trivial) ?aO (Below.refl _ _) ?aS ?aL ?_; (case aP => exact k32_mkM _ _ _ (⟨a1, wrap64 (a2 + beginF u q.f1), q.f0, q.f0⟩ : S32)); (case aO => exact HO3.out); (case aS => exact HG3.out.size); (case aL => exact HLen.out); intro v5 w5 ho5 hb5 hg5 hn5; have HO5 := Aside0.mk ho5; have HG5 := Aside0.mk hg5; clear ho5 hb5 hg5 hn5))
        have hbase := Kd.R_base HO3.out
        have hneg : some g ≠ u6.ownBlock := fun e => by have := hbase g e.symm; have := HG.out; omega
        have HBK5 := Aside0.mk ((HG5.out.block g (blk_lt HBK3.out) hneg).trans HBK3.out)
        have HG6 := Aside0.mk (show w.grownBy w5 (some g) from ⟨HG5.out.os.trans HG3.out.os, HG5.out.tape.trans HG3.out.tape, HG5.out.output.trans HG3.out.output, Nat.le_trans HG3.out.size HG5.out.size, fun k hk hne => (HG5.out.block k (Nat.lt_of_lt_of_le hk HG3.out.size) (fun e => by have := hbase k e.symm; omega)).trans (HG3.out.block k hk hne)⟩)
        clear hbase hneg HG5 HBK3 HG3 HO3 hx0 hx1 hlti hnn hd
        go_roundg (l1.length - (i + 1))
        case measure => have := H1.out; omega
        case rel => exact ⟨i + 1, wrap64 (beginF u q.f1 + q.f0), out ++ [⟨a1, wrap64 (a2 + beginF u q.f1), q.f0, q.f0⟩], by simp, ⟨by omega⟩, ⟨by have := H1.out; omega⟩, HE, ⟨by rw [List.length_append, HL.out]; rfl⟩, HBK5, HO5, HG6⟩
    · have hd : decide ((i : Int) < (l1.length : Int)) = false := decide_eq_false (by omega)
      have e1 := HI.out
      rw [List.drop_eq_nil_of_le (by omega)] at e1
      have e2 : giveRun a1 a2 a3 l1 a5 [] = (u, out, true) := e1
      have HE := Aside0.mk e2
      clear e1 e2 HI
      go_wp2
      go_ret2
      rw [HE.out]
      exact ⟨_, rfl, HO.out, HBK.out, HGr.out⟩
end Go.Proofs.Ythlppjdlljofdaa.P
namespace Go.Proofs.Ythlppjdlljofdaa.P
open Go.RowKit Go.Proofs.YthlppjdlljofdaaW.PrintWords Go.Proofs.YthlppjdlljofdaaW.PrintLast Go.Proofs.YthlppjdlljofdaaW.PrintMore
set_option linter.unusedVariables false
set_option linter.unusedSimpArgs false

def slices_Clone_byte.f (l0 : List Int) : Option (List Int) := if l0.length < 140737488355328 then some l0 else none

set_option maxHeartbeats 8000000 in
set_option maxRecDepth 100000 in
theorem slices_Clone_byte.calls (A0 : Option Addr) (c0 : Nat) (l0 : List Int) (r : List Int) (w : World) (hr0 : Kd.C (Kd.int .u8) w A0 l0.length l0) (hc0 : l0.length ≤ c0) (h : slices_Clone_byte.f l0 = some r) :
    Calls Try.prog 196 #[.slice A0 l0.length c0] w fun e w' => ∃ v0_ : Value, e = .returned (v0_) ∧ Kd.R (Kd.int .u8) 5 w' w.heap.size (fun _ => True) v0_ r ∧ Below w.heap.size w w' := by
  have hsn := fun (W : World) (a : Option Addr) (n c : Nat) => Lib.run_eql_slice_nil (P := Try.prog) W 62 5 a n c 0 0 Try.underlying62
  unfold slices_Clone_byte.f at h
  by_cases hl : l0.length < 140737488355328
  · rw [if_pos hl] at h
    obtain rfl := Option.some.inj h
    clear h
    have HL := Aside0.mk hl
    clear hl
    cases A0 with
    | none =>
      have h0 : l0.length = 0 := by
        rcases Nat.eq_zero_or_pos l0.length with h | h
        · exact h
        · obtain ⟨ad, he, _⟩ := hr0.2.2 h
          cases he
      have hl0 : l0 = [] := List.length_eq_zero_iff.1 h0
      subst hl0
      clear hr0 h0
      go_enter Try.func196, Try.ntmps196
      go_wp2
      go_ret
      exact ⟨_, rfl, Kd.R_nil _ _ _ _ _, Below.refl _ _⟩
    | some ad =>
      have HR0 := Aside0.mk hr0
      have HC0 := Aside0.mk hc0
      clear hr0 hc0
      have HB := Aside0.mk (Below.refl w.heap.size w)
      go_enter Try.func196, Try.ntmps196
      go_wp2_with (first | ((with_reducible refine gate_dst (N := 5) rfl ?_); refine Kd.R_lit (Kd.int .u8) _ 5 ?hg (N := 5) ?hd (xs := ([] : List Int)) (inner := []) (ok := fun _ => True) (okp := fun _ => True) ?hr ?hp (fun _ hk => hk) trivial (Below.refl _ _) (Nat.le_refl _) (by simp) ?_; (case hd => rfl); (case hg => rfl); (case hr => first | (go_simp; done) | (go_simp; rfl)); (case hp => exact (Reps.none _ _)); intro v143 w3 ho4 hb hg_ hnew_; clear hg_ hnew_; have HO144 := Aside0.mk ho4; have n1_ := Aside0.mk (below_step HB.out hb); clear HB; have HB := n1_; clear n1_; clear hb ho4) | ((with_reducible refine gate_builtin (b := .append) (xs := #[.tmp 5, .tmp 6]) rfl ?_); at_builtin; refine Kd.R_append_rows (Kd.int .u8) (w0 := w) w.heap.size rfl (.tmp 5) (.tmp 6) 62 5 (.int .u8 0) 1 rfl Try.underlying62 info5 rfl (by decide) (by omega) v143 [] l0 _ _ _ (fun _ => True) (fun _ => False) rfl rfl ?aO ?aR (fun _ _ h => h) (fun _ h => h.elim) ?aF ?aB ?aS ?aL ?_; (case aR => exact Kd.C_below HR0.out HB.out); (case aB => exact HB.out); (case aF => exact (fun _ _ => trivial)); (case aO => exact HO144.out); (case aS => exact (below_size HB.out)); (case aL => have := HL.out; simp only [List.length_nil]; omega); intro v146 w5 ho hb hg hat; have n0_ := Aside0.mk (hb); have n1_ := Aside0.mk (ho); clear HB; clear HO144; have HB := n0_; have HO147 := n1_; clear n0_ n1_; clear ho hb hg hat))
      go_ret
      exact ⟨_, rfl, HO147.out, HB.out⟩
  · rw [if_neg hl] at h
    exact absurd h (by simp)

def slices_Clone_int.f (l0 : List Int) : Option (List Int) := if l0.length < 17592186044416 then some l0 else none

set_option maxHeartbeats 8000000 in
set_option maxRecDepth 100000 in
theorem slices_Clone_int.calls (A0 : Option Addr) (c0 : Nat) (l0 : List Int) (r : List Int) (w : World) (hr0 : Kd.C (Kd.int .i64) w A0 l0.length l0) (hc0 : l0.length ≤ c0) (h : slices_Clone_int.f l0 = some r) :
    Calls Try.prog 276 #[.slice A0 l0.length c0] w fun e w' => ∃ v0_ : Value, e = .returned (v0_) ∧ Kd.R (Kd.int .i64) 3 w' w.heap.size (fun _ => True) v0_ r ∧ Below w.heap.size w w' := by
  have hsn := fun (W : World) (a : Option Addr) (n c : Nat) => Lib.run_eql_slice_nil (P := Try.prog) W 27 3 a n c 0 0 Try.underlying27
  unfold slices_Clone_int.f at h
  by_cases hl : l0.length < 17592186044416
  · rw [if_pos hl] at h
    obtain rfl := Option.some.inj h
    clear h
    have HL := Aside0.mk hl
    clear hl
    cases A0 with
    | none =>
      have h0 : l0.length = 0 := by
        rcases Nat.eq_zero_or_pos l0.length with h | h
        · exact h
        · obtain ⟨ad, he, _⟩ := hr0.2.2 h
          cases he
      have hl0 : l0 = [] := List.length_eq_zero_iff.1 h0
      subst hl0
      clear hr0 h0
      go_enter Try.func276, Try.ntmps276
      go_wp2
      go_ret
      exact ⟨_, rfl, Kd.R_nil _ _ _ _ _, Below.refl _ _⟩
    | some ad =>
      have HR0 := Aside0.mk hr0
      have HC0 := Aside0.mk hc0
      clear hr0 hc0
      have HB := Aside0.mk (Below.refl w.heap.size w)
      go_enter Try.func276, Try.ntmps276
      go_wp2_with (first | ((with_reducible refine gate_dst (N := 5) rfl ?_); refine Kd.R_lit (Kd.int .i64) _ 3 ?hg (N := 5) ?hd (xs := ([] : List Int)) (inner := []) (ok := fun _ => True) (okp := fun _ => True) ?hr ?hp (fun _ hk => hk) trivial (Below.refl _ _) (Nat.le_refl _) (by simp) ?_; (case hd => rfl); (case hg => rfl); (case hr => first | (go_simp; done) | (go_simp; rfl)); (case hp => exact (Reps.none _ _)); intro v143 w3 ho4 hb hg_ hnew_; clear hg_ hnew_; have HO144 := Aside0.mk ho4; have n1_ := Aside0.mk (below_step HB.out hb); clear HB; have HB := n1_; clear n1_; clear hb ho4) | ((with_reducible refine gate_builtin (b := .append) (xs := #[.tmp 5, .tmp 6]) rfl ?_); at_builtin; refine Kd.R_append_rows (Kd.int .i64) (w0 := w) w.heap.size rfl (.tmp 5) (.tmp 6) 27 3 (.int .i64 0) 8 rfl Try.underlying27 info3 rfl (by decide) (by omega) v143 [] l0 _ _ _ (fun _ => True) (fun _ => False) rfl rfl ?aO ?aR (fun _ _ h => h) (fun _ h => h.elim) ?aF ?aB ?aS ?aL ?_; (case aR => exact Kd.C_below HR0.out HB.out); (case aB => exact HB.out); (case aF => exact (fun _ _ => trivial)); (case aO => exact HO144.out); (case aS => exact (below_size HB.out)); (case aL => have := HL.out; simp only [List.length_nil]; omega); intro v146 w5 ho hb hg hat; have n0_ := Aside0.mk (hb); have n1_ := Aside0.mk (ho); clear HB; clear HO144; have HB := n0_; have HO147 := n1_; clear n0_ n1_; clear ho hb hg hat))
      go_ret
      exact ⟨_, rfl, HO147.out, HB.out⟩
  · rw [if_neg hl] at h
    exact absurd h (by simp)
end Go.Proofs.Ythlppjdlljofdaa.P
namespace Go.Proofs.Ythlppjdlljofdaa.P
open Go.RowKit Go.Proofs.YthlppjdlljofdaaW.PrintWords Go.Proofs.YthlppjdlljofdaaW.PrintLast Go.Proofs.YthlppjdlljofdaaW.PrintMore
attribute [local go_sem] max2_int min2_int max_two min_two max_three min_three max_four min_four   -- for this text's walks alone
set_option linter.unusedVariables false
set_option linter.unusedSimpArgs false

def impl_Memory_own.l0 : Nat → List (List Int) → Int → Int → List (List Int) → Option ((List (List Int)))
  | 0, _, _, _, _ => none
  | k + 1, x8, x9, x10, x263000 => if x10 < x9 then (if 0 ≤ x10 then (if x10 < (x8.length : Int) then ((slices_Clone_byte.f (rd_L1 x8 x10)).bind fun t264 => (if x263000.length < 5864062014805 then (impl_Memory_own.l0 k x8 x9 (wrap64 (x10 + 1)) (x263000 ++ [t264])) else (none))) else (none)) else (none)) else (some x263000)

def impl_Memory_own.f (k : Nat) (l0_0 : List (List Int)) : Option ((List (List Int))) := impl_Memory_own.l0 k l0_0 (l0_0.length : Int) 0 ([] : List (List Int))

def impl_Memory_own.T5 : Bool × List (List Nat × List Nat) := (true, [([], []), ([0], [0]), ([], []), ([2], [2]), ([3], [3]), ([1, 4, 3], [1, 4]), ([0, 1, 2, 3, 4, 5], []), ([6, 5, 5, 0, 1, 2, 3, 4, 5], [5, 6])])

def impl_Memory_own.B5 : List Nat := [0, 1, 0, 4, 12, 31, 63, 127]

theorem impl_Memory_own.tab5 : rtab .any (opsOf Try.f178 5) = impl_Memory_own.T5 := by kernel_rfl

theorem impl_Memory_own.bits5 : waitsOk impl_Memory_own.T5.2 impl_Memory_own.B5 = true := by kernel_rfl

set_option maxHeartbeats 8000000 in
set_option maxRecDepth 100000 in
theorem impl_Memory_own.calls (k : Nat) (A0_0 : Option Addr) (c0_0 : Nat) (l0_0 : List (List Int)) (r : List (List Int)) (w : World) (hr0_0 : Kd.C (Kd.slice 5 (Kd.int .u8)) w A0_0 l0_0.length l0_0) (hc0_0 : l0_0.length ≤ c0_0) (h : impl_Memory_own.f k l0_0 = some r) :
    Calls Try.prog 178 #[.agg #[.slice A0_0 l0_0.length c0_0]] w fun e w' => ∃ v0_ : Value, e = .returned (.agg #[v0_]) ∧ Kd.S (Kd.slice 5 (Kd.int .u8)) 62 w' w.heap.size (fun _ => True) v0_ r ∧ Below w.heap.size w w' := by
  have hu31 := Try.underlying31
  have HR0_0 := Aside0.mk hr0_0
  have HC0_0 := Aside0.mk hc0_0
  clear hr0_0 hc0_0
  have HB := Aside0.mk (Below.refl w.heap.size w)
  have H : (impl_Memory_own.l0 k l0_0 (l0_0.length : Int) 0 ([] : List (List Int))) = some r := h
  clear h
  have H' := Aside0.mk H
  clear H
  go_enter Try.func178, Try.ntmps178
  go_wp2_with (first | ((with_reducible refine gate_dst (N := 1) rfl ?_); refine box_event ?hg (N := 1) ?hd (cs := #[.slice A0_0 l0_0.length c0_0]) (t := 31) ?hr ?_; (case hd => rfl); (case hg => rfl); (case hr => first | (go_simp; done) | (go_simp; rfl)); intro gb260 hg w2 hbox hb; have n0_ := Aside0.mk (below_step (by repeat (first | (with_reducible first | exact HB.out | apply below_alloc | apply pw_below_drewN | apply below_drew1) | exact HB.out)) hb); have n1_ := Aside0.mk (hbox); have n2_ := Aside0.mk ((by rw [hg]; exact (below_size (by repeat (first | (with_reducible first | exact HB.out | apply below_alloc | apply pw_below_drewN | apply below_drew1) | exact HB.out))) : w.heap.size ≤ gb260)); have n3_ := Aside0.mk ((by rw [hg]; exact (below_size (by repeat (first | (with_reducible first | exact HB.out | apply below_alloc | apply pw_below_drewN | apply below_drew1) | exact HB.out))) : w.heap.size ≤ gb260)); clear HB; have HB := n0_; have BK260 := n1_; have GW260 := n2_; have GE260 := n3_; clear n0_ n1_ n2_ n3_; clear hb hbox hg) | ((with_reducible refine gate_dst (N := 2) rfl ?_); refine box_event ?hg (N := 2) ?hd (cs := #[.slice none 0 0]) (t := 31) ?hr ?_; (case hd => rfl); (case hg => rfl); (case hr => first | (go_simp; done) | (go_simp; rfl)); intro gb261 hg w3 hbox hb; have n0_ := Aside0.mk (blk_below (g := gb260) (o := .cells #[.slice A0_0 l0_0.length c0_0] 31 (0, 0)) (by (with_reducible repeat (first | refine blk_drewN ?_ _ | refine blk_drew ?_ | refine blk_alloc ?_ _)); exact BK260.out) hb); have n1_ := Aside0.mk (below_step (by repeat (first | (with_reducible first | exact HB.out | apply below_alloc | apply pw_below_drewN | apply below_drew1 | refine below_set ?_ GE260.out) | exact HB.out)) hb); have n2_ := Aside0.mk (hbox); have n3_ := Aside0.mk ((by rw [hg]; exact (below_size (by repeat (first | (with_reducible first | exact HB.out | apply below_alloc | apply pw_below_drewN | apply below_drew1 | refine below_set ?_ GE260.out) | exact HB.out))) : w.heap.size ≤ gb261)); have n4_ := Aside0.mk ((by rw [hg]; exact (below_size (by repeat (first | (with_reducible first | exact HB.out | apply below_alloc | apply pw_below_drewN | apply below_drew1 | refine below_set ?_ GE260.out) | exact HB.out))) : w.heap.size ≤ gb261)); have n5_ := Aside0.mk ((by rw [hg]; exact Nat.ne_of_lt (blk_lt (g := gb260) (o := .cells #[.slice A0_0 l0_0.length c0_0] 31 (0, 0)) (by (with_reducible repeat (first | refine blk_drewN ?_ _ | refine blk_drew ?_ | refine blk_alloc ?_ _)); exact BK260.out)) : gb260 ≠ gb261)); have n6_ := Aside0.mk ((by rw [hg]; exact Nat.ne_of_gt (blk_lt (g := gb260) (o := .cells #[.slice A0_0 l0_0.length c0_0] 31 (0, 0)) (by (with_reducible repeat (first | refine blk_drewN ?_ _ | refine blk_drew ?_ | refine blk_alloc ?_ _)); exact BK260.out)) : gb261 ≠ gb260)); clear BK260; clear HB; have BK260 := n0_; have HB := n1_; have BK261 := n2_; have GW261 := n3_; have GE261 := n4_; have NB260_261 := n5_; have NB261_260 := n6_; clear n0_ n1_ n2_ n3_ n4_ n5_ n6_; clear hb hbox hg) | ((with_reducible refine gate_dst (N := 3) rfl ?_); refine box_event ?hg (N := 3) ?hd (cs := #[.slice none 0 0]) (t := 31) ?hr ?_; (case hd => rfl); (case hg => rfl); (case hr => first | (go_simp; done) | (go_simp; rfl)); intro gb262 hg w4 hbox hb; have n0_ := Aside0.mk (blk_below (g := gb260) (o := .cells #[.slice A0_0 l0_0.length c0_0] 31 (0, 0)) (by (with_reducible repeat (first | refine blk_drewN ?_ _ | refine blk_drew ?_ | refine blk_alloc ?_ _)); exact BK260.out) hb); have n1_ := Aside0.mk (blk_below (g := gb261) (o := .cells #[.slice none 0 0] 31 (0, 0)) (by (with_reducible repeat (first | refine blk_drewN ?_ _ | refine blk_drew ?_ | refine blk_alloc ?_ _)); exact BK261.out) hb); have n2_ := Aside0.mk (below_step (by repeat (first | (with_reducible first | exact HB.out | apply below_alloc | apply pw_below_drewN | apply below_drew1 | refine below_set ?_ GE260.out | refine below_set ?_ GE261.out) | exact HB.out)) hb); have n3_ := Aside0.mk (hbox); have n4_ := Aside0.mk ((by rw [hg]; exact (below_size (by repeat (first | (with_reducible first | exact HB.out | apply below_alloc | apply pw_below_drewN | apply below_drew1 | refine below_set ?_ GE260.out | refine below_set ?_ GE261.out) | exact HB.out))) : w.heap.size ≤ gb262)); have n5_ := Aside0.mk ((by rw [hg]; exact (below_size (by repeat (first | (with_reducible first | exact HB.out | apply below_alloc | apply pw_below_drewN | apply below_drew1 | refine below_set ?_ GE260.out | refine below_set ?_ GE261.out) | exact HB.out))) : w.heap.size ≤ gb262)); have n6_ := Aside0.mk ((by rw [hg]; exact Nat.ne_of_lt (blk_lt (g := gb260) (o := .cells #[.slice A0_0 l0_0.length c0_0] 31 (0, 0)) (by (with_reducible repeat (first | refine blk_drewN ?_ _ | refine blk_drew ?_ | refine blk_alloc ?_ _)); exact BK260.out)) : gb260 ≠ gb262)); have n7_ := Aside0.mk ((by rw [hg]; exact Nat.ne_of_gt (blk_lt (g := gb260) (o := .cells #[.slice A0_0 l0_0.length c0_0] 31 (0, 0)) (by (with_reducible repeat (first | refine blk_drewN ?_ _ | refine blk_drew ?_ | refine blk_alloc ?_ _)); exact BK260.out)) : gb262 ≠ gb260)); have n8_ := Aside0.mk ((by rw [hg]; exact Nat.ne_of_lt (blk_lt (g := gb261) (o := .cells #[.slice none 0 0] 31 (0, 0)) (by (with_reducible repeat (first | refine blk_drewN ?_ _ | refine blk_drew ?_ | refine blk_alloc ?_ _)); exact BK261.out)) : gb261 ≠ gb262)); have n9_ := Aside0.mk ((by rw [hg]; exact Nat.ne_of_gt (blk_lt (g := gb261) (o := .cells #[.slice none 0 0] 31 (0, 0)) (by (with_reducible repeat (first | refine blk_drewN ?_ _ | refine blk_drew ?_ | refine blk_alloc ?_ _)); exact BK261.out)) : gb262 ≠ gb261)); clear BK260; clear BK261; clear HB; have BK260 := n0_; have BK261 := n1_; have HB := n2_; have BK262 := n3_; have GW262 := n4_; have GE262 := n5_; have NB260_262 := n6_; have NB262_260 := n7_; have NB261_262 := n8_; have NB262_261 := n9_; clear n0_ n1_ n2_ n3_ n4_ n5_ n6_ n7_ n8_ n9_; clear hb hbox hg; have hnb5 := NB262_260.out; have hnc5 := NB260_262.out; have hnb6 := NB262_261.out; have hnc6 := NB261_262.out; have hcz7_0 : w4.cell? ⟨gb262, 0, none⟩ = some (.slice none 0 0) := (blk_cell BK262.out 0).trans rfl; have hfz7_0 := blk_frozen BK262.out 0; have hnb8 := NB260_261.out; have hnc8 := NB261_260.out; have hcz9_0 : w4.cell? ⟨gb260, 0, none⟩ = some (.slice A0_0 l0_0.length c0_0) := (blk_cell BK260.out 0).trans rfl; have hfz9_0 := blk_frozen BK260.out 0))
  go_loopg [10] k (fun kq v10 w' => ∃ (x10_1 : Int) (x263000_1 : List (List Int)) (u263000 : Value), v10 = .int .i64 x10_1 ∧ Aside0 (impl_Memory_own.l0 kq l0_0 (l0_0.length : Int) x10_1 x263000_1 = some r) ∧ Aside0 (kq ≤ k) ∧ Aside0 (Kd.S (Kd.slice 5 (Kd.int .u8)) 62 w' w.heap.size (fun _ => True) u263000 x263000_1) ∧ Aside0 (w'.heap[gb260]? = some (.cells #[(.slice A0_0 l0_0.length c0_0)] 31 (0, 0))) ∧ Aside0 (w'.heap[gb261]? = some (.cells #[(.slice none 0 0)] 31 (0, 0))) ∧ Aside0 (w'.heap[gb262]? = some (.cells #[u263000] 31 (0, 0))) ∧ Aside0 (Below w.heap.size w w'))
  case atStart => exact ⟨(0), (([] : List (List Int))), (.slice none 0 0), (by first | rfl | (simp; done) | (simp [*]; done)), H', ⟨Nat.le_refl _⟩, ⟨by first | exact Kd.S_nil _ _ _ _ _ | exact Kd.N_nil _ _ _ _ _ | exact Kd.V_nil _ _ _ _ _ | exact Kd.Q_nil _ _ _ _ _ | exact Kd.R_nil _ _ _ _ _⟩, ⟨by (with_reducible repeat (first | refine blk_drewN ?_ _ | refine blk_drew ?_ | refine blk_alloc ?_ _)); refine blk_far ?_ NB260_262.out _; (with_reducible repeat (first | refine blk_drewN ?_ _ | refine blk_drew ?_ | refine blk_alloc ?_ _)); exact BK260.out⟩, ⟨by (with_reducible repeat (first | refine blk_drewN ?_ _ | refine blk_drew ?_ | refine blk_alloc ?_ _)); refine blk_far ?_ NB261_262.out _; (with_reducible repeat (first | refine blk_drewN ?_ _ | refine blk_drew ?_ | refine blk_alloc ?_ _)); exact BK261.out⟩, ⟨by (with_reducible repeat (first | refine blk_drewN ?_ _ | refine blk_drew ?_ | refine blk_alloc ?_ _)); refine blk_put (cs := #[.slice none 0 0]) ?_ 0 _ rfl; (with_reducible repeat (first | refine blk_drewN ?_ _ | refine blk_drew ?_ | refine blk_alloc ?_ _)); exact BK262.out⟩, ⟨by repeat (first | (with_reducible first | exact HB.out | apply below_alloc | apply pw_below_drewN | apply below_drew1 | refine below_set ?_ GE260.out | refine below_set ?_ GE261.out | refine below_set ?_ GE262.out) | exact HB.out)⟩⟩
  case round =>
    clear H'
    try clear c1
    try clear p2
    try clear c5
    try clear c6
    try clear c8
    try clear hcz7_0
    try clear hcz9_0
    try clear hfz7_0
    try clear hfz9_0
    obtain ⟨x10_1, x263000_1, u263000, rfl, HA, HK1, HO_263000, BK260, BK261, BK262, HB⟩ := hrel
    cases gk with
    | zero => exact absurd HA.out (by simp [impl_Memory_own.l0])
    | succ k1 =>
      have H := HA.out
      clear HA
      simp only [impl_Memory_own.l0] at H
      by_cases c10 : x10_1 < (l0_0.length : Int)
      · rw [if_pos c10] at H
        have c10b0 : decide (x10_1 < (l0_0.length : Int)) = true := decide_eq_true c10
        clear c10
        by_cases c11 : 0 ≤ x10_1
        · rw [if_pos c11] at H
          have c11b0 : decide (0 ≤ x10_1) = true := decide_eq_true c11
          clear c11
          by_cases c12 : x10_1 < (l0_0.length : Int)
          · rw [if_pos c12] at H
            have c12b0 : decide (x10_1 < (l0_0.length : Int)) = true := decide_eq_true c12
            clear c12
            replace H := Option.bind_eq_some_iff.mp H
            obtain ⟨t264, A130, H⟩ := H
            replace H : (if x263000_1.length < 5864062014805 then (impl_Memory_own.l0 k1 l0_0 (l0_0.length : Int) (wrap64 (x10_1 + 1)) (x263000_1 ++ [t264])) else (none)) = some r := H
            have A13 := Aside0.mk A130
            clear A130
            by_cases c14 : x263000_1.length < 5864062014805
            · rw [if_pos c14] at H
              have LMc14 := Aside0.mk c14
              clear c14
              obtain ⟨y267, hy267⟩ : ∃ y_ : List (List Int), y_ = (x263000_1 ++ [t264]) := ⟨_, rfl⟩
              replace H : (impl_Memory_own.l0 k1 l0_0 (l0_0.length : Int) (wrap64 (x10_1 + 1)) y267) = some r := by first | (rw [hy267]; with_reducible exact H) | (have H2_ := (Option.bind_some _ _).symm.trans H; rw [hy267]; with_reducible exact H2_) | (have H2_ := (Option.bind_some _ _).symm.trans H; with_reducible exact H2_) | with_reducible exact H | (rw [hy267]; exact H) | exact H
              have Ny267 := Aside0.mk hy267
              clear hy267
              have H' := Aside0.mk H
              clear H
              have p263 : 0 ≤ (x10_1 : Int) := of_decide_eq_true (by first | (with_reducible assumption) | assumption)
              have q263 : x10_1 < (l0_0.length : Int) := of_decide_eq_true (by first | (with_reducible assumption) | assumption)
              obtain ⟨ad263, A263_0, c263_0, e263, hx263_0, hl263_0, hi263_0⟩ := at_L1 HR0_0.out x10_1 p263 q263
              cases e263
              replace hx263_0 := (HB.out.cell (World.block_lt_of_cell? w _ hx263_0)).trans hx263_0
              have HR263_0 := Aside0.mk hi263_0
              have HC263_0 := Aside0.mk hl263_0
              clear hi263_0 hl263_0
              replace p263 := eq_true p263
              replace q263 := eq_true q263
              try go_wp2
              have n0_ := Aside0.mk (Kd.S_drew HO_263000.out)
              have n1_ := Aside0.mk (blk_drew BK260.out)
              have n2_ := Aside0.mk (blk_drew BK261.out)
              have n3_ := Aside0.mk (blk_drew BK262.out)
              have n4_ := Aside0.mk (below_drew1 HB.out)
              clear HO_263000
              clear BK260
              clear BK261
              clear BK262
              clear HB
              have HO_263000 := n0_
              have BK260 := n1_
              have BK261 := n2_
              have BK262 := n3_
              have HB := n4_
              clear n0_ n1_ n2_ n3_ n4_
              refine start_ (n := 8) (S := fun w' => w'.cell? ⟨gb262, 0, none⟩ = some (u263000)) (ds := [7]) #[false, false, false, false, false, false, false, false] (by kernel_rfl) rfl rfl ((blk_cell BK262.out 0).trans rfl) (fun hHeld => ?_); refine with_tabW impl_Memory_own.tab5 impl_Memory_own.bits5 (fun HT_ HW_ => ?_)
              generalize wr.drew = w15 at HO_263000 BK260 BK261 BK262 HB hHeld ⊢
              refine pure_ (i := 0) (N := some 14) (v := ?_) (a' := ?_) #[true, false, false, false, false, false, false, false] rfl rfl (any_of HT_.out (by kernel_rfl)) (fun _ _ _ h => h) (Or.inl ⟨by rfl, ?_⟩) ?_ ?_
              rotate_left
              · intro w'
                go_simp
                with_reducible rfl
              rotate_left
              · simp only [Act.put, List.setIfInBounds_toArray, List.set_cons_zero, List.set_cons_succ, i64_w, i32_w]
                rfl
              refine pure_ (i := 2) (N := some 16) (v := ?_) (a' := ?_) #[true, false, true, false, false, false, false, false] rfl rfl (any_of HT_.out (by kernel_rfl)) (fun _ _ _ h => h) (Or.inl ⟨by rfl, ?_⟩) ?_ ?_
              rotate_left
              · intro w'
                go_simp
                with_reducible rfl
              rotate_left
              · simp only [Act.put, List.setIfInBounds_toArray, List.set_cons_zero, List.set_cons_succ, i64_w, i32_w]
                rfl
              refine take_ (i := 1) (N := some 15) (v := ?_) (a' := ?_) #[true, true, true, false, false, false, false, false] rfl rfl (take_ofW HT_.out HW_.out (by kernel_rfl)) (fun _ _ _ h => h) (Or.inl ⟨by rfl, ?_⟩) hHeld ?_ ?_
              rotate_left
              · intro w' s0
                go_simp
                with_reducible rfl
              rotate_left
              · simp only [Act.put, List.setIfInBounds_toArray, List.set_cons_zero, List.set_cons_succ, i64_w, i32_w]
                rfl
              refine one_ (i := 3) (N := some 17) #[true, true, true, true, false, false, false, false] rfl rfl (one_of HT_.out (by kernel_rfl)) (by decide) (fun K hK => ?_)
              refine goes_ Try.func196 (by kernel_rfl) rfl #[.slice A263_0 (rd_L1 l0_0 x10_1).length c263_0] (by rfl) rfl rfl (by (try simp only [List.map_toArray, List.map_cons, List.map_nil]); first | done | rfl | (simp only [List.length_drop, List.length_take]; rfl)) ?_
              with_reducible refine (slices_Clone_byte.calls _ _ (rd_L1 l0_0 x10_1) t264 _ ?side1 ?side2 A13.out).mono ?_
              (case side1 => repeat (first | exact (Kd.C_below HR263_0.out HB.out) | (with_reducible refine Kd.C_alloc ?_ _) | (with_reducible refine Kd.C_drewN ?_ _) | (with_reducible refine Kd.C_drew ?_)))
              (case side2 => exact HC263_0.out)
              rintro e w16 ⟨v265, rfl, ho0, hb⟩
              refine ⟨_, rfl, ?_⟩
              have n0_ := Aside0.mk (Kd.S_elder' (by (with_reducible repeat (first | apply Kd.S_alloc | apply Kd.S_drewN | apply Kd.S_drew)); exact HO_263000.out) (Kd.R_base ho0) hb)
              have n1_ := Aside0.mk (Kd.R_lower ho0 (below_size (by repeat (first | (with_reducible first | exact HB.out | apply below_alloc | apply pw_below_drewN | apply below_drew1 | refine below_set ?_ GE260.out | refine below_set ?_ GE261.out | refine below_set ?_ GE262.out) | exact HB.out))))
              have n2_ := Aside0.mk (blk_below (g := gb260) (o := .cells #[.slice (some ad263) l0_0.length c0_0] 31 (0, 0)) (by (with_reducible repeat (first | refine blk_drewN ?_ _ | refine blk_drew ?_ | refine blk_alloc ?_ _)); exact BK260.out) hb)
              have n3_ := Aside0.mk (blk_below (g := gb261) (o := .cells #[.slice none 0 0] 31 (0, 0)) (by (with_reducible repeat (first | refine blk_drewN ?_ _ | refine blk_drew ?_ | refine blk_alloc ?_ _)); exact BK261.out) hb)
              have n4_ := Aside0.mk (blk_below (g := gb262) (o := .cells #[u263000] 31 (0, 0)) (by (with_reducible repeat (first | refine blk_drewN ?_ _ | refine blk_drew ?_ | refine blk_alloc ?_ _)); exact BK262.out) hb)
              have n5_ := Aside0.mk (below_step (by repeat (first | (with_reducible first | exact HB.out | apply below_alloc | apply pw_below_drewN | apply below_drew1 | refine below_set ?_ GE260.out | refine below_set ?_ GE261.out | refine below_set ?_ GE262.out) | exact HB.out)) hb)
              clear HO_263000
              clear BK260
              clear BK261
              clear BK262
              clear HB
              have HO_263000 := n0_
              have HO266 := n1_
              have BK260 := n2_
              have BK261 := n3_
              have BK262 := n4_
              have HB := n5_
              clear n0_ n1_ n2_ n3_ n4_ n5_
              (try clear hb)
              (try clear hb2)
              (try clear hk)
              (try clear hi)
              (try clear ho0)
              obtain ⟨Ao18, co18, eo18⟩ := Kd.R_slice HO266.out
              (first | subst eo18 | (injection eo18 with f1_ f2_ f3_; have f4_ := f1_.symm; have f5_ := f3_.symm; clear f1_ f2_ f3_; subst f4_; subst f5_))
              refine hK.out _ _ ((blk_cell BK262.out 0).trans rfl) (fun hHeld => ?_)
              clear hK K
              refine norm_ (a' := ?_) ?_ ?_
              rotate_left
              · show Act.put _ (some 17) _ = _
                simp only [Act.put, List.setIfInBounds_toArray, List.set_cons_zero, List.set_cons_succ, i64_w, i32_w]
                rfl
              refine one_ (i := 4) (N := some 18) #[true, true, true, true, true, false, false, false] rfl rfl (one_of HT_.out (by kernel_rfl)) (by decide) (fun K hK => ?_)
              refine value_ (w1 := ?_) (v := ?_) (by rfl) rfl ?_ ?_
              rotate_left 2
              · go_simp
                constructor
                · rfl
                · rfl
              refine hK.out _ _ ((blk_cell (blk_alloc BK262.out _) 0).trans rfl) (fun hHeld => ?_)
              clear hK K
              refine norm_ (a' := ?_) ?_ ?_
              rotate_left
              · show Act.put _ (some 18) _ = _
                simp only [Act.put, List.setIfInBounds_toArray, List.set_cons_zero, List.set_cons_succ, i64_w, i32_w]
                rfl
              refine one_ (i := 5) (N := some 19) #[true, true, true, true, true, true, false, false] rfl rfl (one_of HT_.out (by kernel_rfl)) (by decide) (fun K hK => ?_)
              refine Kd.S_append_step (Kd.slice 5 (Kd.int .u8)) (w0 := w) w.heap.size (by rfl) (.tmp 15) (.tmp 18) 22 62 (.slice none 0 0) 24 rfl Try.underlying22 info62 rfl (by decide) (by omega) u263000 x263000_1 t264 [.slice Ao18 t264.length co18] (fun _ => True) (fun k_ => some k_ = (.slice Ao18 t264.length co18 : Value).ownBlock) rfl rfl ?aP (fun k_ hk_ => ((Kd.R_mono (ok' := fun k_ => ((fun _ => True)) k_ ∧ some k_ ≠ (u263000 : Value).ownBlock) (Kd.R_apart' (HO266.out) (Kd.S_typed HO_263000.out) (by decide)) (fun k_ hk => ⟨trivial, hk.2⟩))).1 k_ hk_.symm) ?aF ?aO ?aB ?aS ?aL ?_
              (case aP => exact Kd.M_row (Kd.R_mono (Kd.R_tight rfl (Kd.R_mono (ok' := fun k_ => ((fun _ => True)) k_ ∧ some k_ ≠ (u263000 : Value).ownBlock) (Kd.R_apart' (HO266.out) (Kd.S_typed HO_263000.out) (by decide)) (fun k_ hk => ⟨trivial, hk.2⟩))) (fun _ h_ => h_)))
              (case aB => exact (by repeat (first | (with_reducible first | exact HB.out | apply below_alloc | apply pw_below_drewN | apply below_drew1 | refine below_set ?_ GE260.out | refine below_set ?_ GE261.out | refine below_set ?_ GE262.out) | exact HB.out)))
              (case aF => exact (fun _ _ => trivial))
              (case aO => exact (by (with_reducible repeat (first | apply Kd.S_alloc | apply Kd.S_drewN | apply Kd.S_drew)); exact Kd.S_mono HO_263000.out (fun k_ hk => ⟨trivial, fun e_ => hk.2 e_⟩)))
              (case aS => exact (below_size (by repeat (first | (with_reducible first | exact HB.out | apply below_alloc | apply pw_below_drewN | apply below_drew1 | refine below_set ?_ GE260.out | refine below_set ?_ GE261.out | refine below_set ?_ GE262.out) | exact HB.out))))
              (case aL => have := LMc14.out; omega)
              intro v268 w17 ho hb hg hat
              rw [← Ny267.out] at ho
              have n0_ := Aside0.mk (blk_grown (g := gb260) (o := .cells #[.slice (some ad263) l0_0.length c0_0] 31 (0, 0)) (by (with_reducible repeat (first | refine blk_drewN ?_ _ | refine blk_drew ?_ | refine blk_alloc ?_ _)); exact BK260.out) hg (Kd.S_ne HO_263000.out BK260.out (by decide)))
              have n1_ := Aside0.mk (blk_grown (g := gb261) (o := .cells #[.slice none 0 0] 31 (0, 0)) (by (with_reducible repeat (first | refine blk_drewN ?_ _ | refine blk_drew ?_ | refine blk_alloc ?_ _)); exact BK261.out) hg (Kd.S_ne HO_263000.out BK261.out (by decide)))
              have n2_ := Aside0.mk (blk_grown (g := gb262) (o := .cells #[u263000] 31 (0, 0)) (by (with_reducible repeat (first | refine blk_drewN ?_ _ | refine blk_drew ?_ | refine blk_alloc ?_ _)); exact BK262.out) hg (Kd.S_ne HO_263000.out BK262.out (by decide)))
              have n3_ := Aside0.mk (hb)
              have n4_ := Aside0.mk (ho)
              clear BK260
              clear BK261
              clear BK262
              clear HB
              clear HO_263000
              clear HO266
              have BK260 := n0_
              have BK261 := n1_
              have BK262 := n2_
              have HB := n3_
              have HO269 := n4_
              clear n0_ n1_ n2_ n3_ n4_
              clear ho hb hg hat
              obtain ⟨Ao19, co19, eo19⟩ := Kd.S_slice HO269.out
              (first | subst eo19 | (injection eo19 with f1_ f2_ f3_; have f4_ := f1_.symm; have f5_ := f3_.symm; clear f1_ f2_ f3_; subst f4_; subst f5_))
              refine hK.out _ _ ((blk_cell BK262.out 0).trans rfl) (fun hHeld => ?_)
              clear hK K
              refine norm_ (a' := ?_) ?_ ?_
              rotate_left
              · show Act.put _ (some 19) _ = _
                simp only [Act.put, List.setIfInBounds_toArray, List.set_cons_zero, List.set_cons_succ, i64_w, i32_w]
                rfl
              refine pure_ (i := 6) (N := some 20) (v := ?_) (a' := ?_) #[true, true, true, true, true, true, true, false] rfl rfl (any_of HT_.out (by kernel_rfl)) (fun _ _ _ h => h) (Or.inl ⟨by rfl, ?_⟩) ?_ ?_
              rotate_left
              · intro w'
                go_simp
                with_reducible rfl
              rotate_left
              · simp only [Act.put, List.setIfInBounds_toArray, List.set_cons_zero, List.set_cons_succ, i64_w, i32_w]
                rfl
              refine last_ (i := 7) (N := none) #[true, true, true, true, true, true, true, true] rfl rfl (one_of HT_.out (by kernel_rfl)) (by decide) (fun K hK => ?_)
              have hs20 : w17.cell? ⟨gb262, 0, none⟩ = some (u263000) := (blk_cell BK262.out 0).trans rfl
              have hfs20 := blk_frozen BK262.out 0
              have hns20_0 := NB260_262.out
              have hns20_1 := NB261_262.out
              have hms20_0 := NB262_260.out
              have hms20_1 := NB262_261.out
              refine skip_ (w1 := ?_) (by rfl) rfl ?_ ?_
              rotate_left
              · go_simp
                rfl
              refine hK.out _ _ ?_
              clear hK K
              refine done_ (done_of HT_.out (by kernel_rfl)) ?_
              try go_wp2
              go_roundg k1
              case measure => have := HK1.out; omega
              case rel => exact ⟨(wrap64 (x10_1 + 1)), (y267), (.slice Ao19 y267.length co19), (by first | rfl | (simp; done) | (simp [*]; done)), H', ⟨by have := HK1.out; omega⟩, ⟨by (with_reducible repeat (first | apply Kd.S_alloc | apply Kd.S_drewN | apply Kd.S_drew)); exact Kd.S_mono (Kd.S_far (p := ⟨gb262, 0, none⟩) (Kd.S_types HO269.out BK262.out (by decide)) (fun _ hk => hk.2) (.slice Ao19 y267.length co19)) (fun _ hk => trivial)⟩, ⟨by (with_reducible repeat (first | refine blk_drewN ?_ _ | refine blk_drew ?_ | refine blk_alloc ?_ _)); refine blk_far ?_ NB260_262.out _; (with_reducible repeat (first | refine blk_drewN ?_ _ | refine blk_drew ?_ | refine blk_alloc ?_ _)); exact BK260.out⟩, ⟨by (with_reducible repeat (first | refine blk_drewN ?_ _ | refine blk_drew ?_ | refine blk_alloc ?_ _)); refine blk_far ?_ NB261_262.out _; (with_reducible repeat (first | refine blk_drewN ?_ _ | refine blk_drew ?_ | refine blk_alloc ?_ _)); exact BK261.out⟩, ⟨by (with_reducible repeat (first | refine blk_drewN ?_ _ | refine blk_drew ?_ | refine blk_alloc ?_ _)); refine blk_put (cs := #[u263000]) ?_ 0 _ rfl; (with_reducible repeat (first | refine blk_drewN ?_ _ | refine blk_drew ?_ | refine blk_alloc ?_ _)); exact BK262.out⟩, ⟨by repeat (first | (with_reducible first | exact HB.out | apply below_alloc | apply pw_below_drewN | apply below_drew1 | refine below_set ?_ GE260.out | refine below_set ?_ GE261.out | refine below_set ?_ GE262.out) | exact HB.out)⟩⟩
            · rw [if_neg c14] at H
              exact absurd H (by simp)
          · rw [if_neg c12] at H
            exact absurd H (by simp)
        · rw [if_neg c11] at H
          exact absurd H (by simp)
      · rw [if_neg c10] at H
        have c10b0 : decide (x10_1 < (l0_0.length : Int)) = false := decide_eq_false c10
        clear c10
        obtain rfl := Option.some.inj H
        have hnb21 := NB262_260.out
        have hnc21 := NB260_262.out
        have hnb22 := NB262_261.out
        have hnc22 := NB261_262.out
        have hcz23_0 : wr.cell? ⟨gb262, 0, none⟩ = some (u263000) := (blk_cell BK262.out 0).trans rfl
        have hfz23_0 := blk_frozen BK262.out 0
        obtain ⟨Ao24, co24, eo24⟩ := Kd.S_slice HO_263000.out
        subst eo24
        have hnb25 := NB261_260.out
        have hnc25 := NB260_261.out
        have hcz26_0 : wr.cell? ⟨gb261, 0, none⟩ = some (.slice none 0 0) := (blk_cell BK261.out 0).trans rfl
        have hfz26_0 := blk_frozen BK261.out 0
        go_wp2
        refine bodyPost_ret (results_cell_row rfl _ _ gb261 31 #[.slice Ao24 x263000_1.length co24] (0, 0) _ rfl (by (with_reducible repeat (first | refine blk_drewN ?_ _ | refine blk_drew ?_ | refine blk_alloc ?_ _)); refine blk_put (cs := #[.slice none 0 0]) ?_ 0 _ rfl; (with_reducible repeat (first | refine blk_drewN ?_ _ | refine blk_drew ?_ | refine blk_alloc ?_ _)); exact BK261.out) Try.underlying31 rfl (by kernel_rfl)) rfl ?_
        exact ⟨_, by first | rfl | (simp [errW_none, errW_some] <;> rfl) | (simp [*, errW_none, errW_some] <;> rfl), by (with_reducible repeat (first | apply Kd.S_alloc | apply Kd.S_drewN | apply Kd.S_drew)); exact Kd.S_mono (Kd.S_far (p := ⟨gb261, 0, none⟩) (Kd.S_types HO_263000.out BK261.out (by decide)) (fun _ hk => hk.2) (.slice Ao24 x263000_1.length co24)) (fun _ hk => trivial), by repeat (first | (with_reducible first | exact HB.out | apply below_alloc | apply pw_below_drewN | apply below_drew1 | refine below_set ?_ GE260.out | refine below_set ?_ GE261.out | refine below_set ?_ GE262.out) | exact HB.out)⟩
end Go.Proofs.Ythlppjdlljofdaa.P
namespace Go.Proofs.Ythlppjdlljofdaa.P
open Go.RowKit Go.Proofs.YthlppjdlljofdaaW.PrintWords Go.Proofs.YthlppjdlljofdaaW.PrintLast Go.Proofs.YthlppjdlljofdaaW.PrintMore
attribute [local go_sem] max2_int min2_int max_two min_two max_three min_three max_four min_four   -- for this text's walks alone
set_option linter.unusedVariables false
set_option linter.unusedSimpArgs false

def impl_Arena_own.f (k : Nat) (l0_0 : List (List Int)) (a0_1 : Int) (a0_2 : Int) (a0_3 : Int) (a0_4 : Int) (a0_5 : Int) (l0_6 : List Int) : Option ((List (List Int)) × Int × Int × Int × Int × Int × List Int) := (impl_Memory_own.f k l0_0).bind fun t272 => ((slices_Clone_int.f l0_6).bind fun t275 => (some (t272, a0_1, a0_2, a0_3, a0_4, a0_5, t275)))

def impl_Arena_own.T1 : Bool × List (List Nat × List Nat) := (true, [([], []), ([0], [0]), ([1], [1]), ([], []), ([3], [3]), ([4, 2], [4]), ([0, 1, 2, 3, 4], []), ([6, 2, 5, 0, 1, 2, 3, 4], [2, 6]), ([0, 1, 2, 3, 4, 5, 6, 7], []), ([8, 5, 7, 0, 1, 2, 3, 4, 5, 6, 7], [5, 8])])

def impl_Arena_own.B1 : List Nat := [0, 1, 3, 0, 8, 31, 31, 127, 255, 511]

theorem impl_Arena_own.tab1 : rtab .any (opsOf Try.f154 1) = impl_Arena_own.T1 := by kernel_rfl

theorem impl_Arena_own.bits1 : waitsOk impl_Arena_own.T1.2 impl_Arena_own.B1 = true := by kernel_rfl

set_option maxHeartbeats 8000000 in
set_option maxRecDepth 100000 in
theorem impl_Arena_own.calls (k : Nat) (A0_0 : Option Addr) (c0_0 : Nat) (l0_0 : List (List Int)) (a0_1 : Int) (a0_2 : Int) (a0_3 : Int) (a0_4 : Int) (a0_5 : Int) (A0_6 : Option Addr) (c0_6 : Nat) (l0_6 : List Int) (r1 : List (List Int)) (r2 : Int) (r3 : Int) (r4 : Int) (r5 : Int) (r6 : Int) (r7 : List Int) (w : World) (hr0_0 : Kd.C (Kd.slice 5 (Kd.int .u8)) w A0_0 l0_0.length l0_0) (hc0_0 : l0_0.length ≤ c0_0) (hr0_6 : Kd.C (Kd.int .i64) w A0_6 l0_6.length l0_6) (hc0_6 : l0_6.length ≤ c0_6) (h : impl_Arena_own.f k l0_0 a0_1 a0_2 a0_3 a0_4 a0_5 l0_6 = some (r1, r2, r3, r4, r5, r6, r7)) :
    Calls Try.prog 154 #[.agg #[.slice A0_0 l0_0.length c0_0, .int .i64 a0_1, .int .i64 a0_2, .int .i64 a0_3, .int .i64 a0_4, .int .i64 a0_5, .slice A0_6 l0_6.length c0_6]] w fun e w' => ∃ v0_ v6_ : Value, e = .returned (.agg #[v0_, .int .i64 r2, .int .i64 r3, .int .i64 r4, .int .i64 r5, .int .i64 r6, v6_]) ∧ Kd.S (Kd.slice 5 (Kd.int .u8)) 62 w' w.heap.size (fun _ => True) v0_ r1 ∧ Kd.R (Kd.int .i64) 3 w' w.heap.size (fun _ => True) v6_ r7 ∧ Below w.heap.size w w' := by
  have hu34 := Try.underlying34
  have hu31 := Try.underlying31
  have HR0_0 := Aside0.mk hr0_0
  have HC0_0 := Aside0.mk hc0_0
  clear hr0_0 hc0_0
  have HR0_6 := Aside0.mk hr0_6
  have HC0_6 := Aside0.mk hc0_6
  clear hr0_6 hc0_6
  have HB := Aside0.mk (Below.refl w.heap.size w)
  have H : ((impl_Memory_own.f k l0_0).bind fun t272 => ((slices_Clone_int.f l0_6).bind fun t275 => (some (t272, a0_1, a0_2, a0_3, a0_4, a0_5, t275)))) = some (r1, r2, r3, r4, r5, r6, r7) := h
  clear h
  replace H := Option.bind_eq_some_iff.mp H
  obtain ⟨t272, A20, H⟩ := H
  replace H : ((slices_Clone_int.f l0_6).bind fun t275 => (some (t272, a0_1, a0_2, a0_3, a0_4, a0_5, t275))) = some (r1, r2, r3, r4, r5, r6, r7) := H
  have A2 := Aside0.mk A20
  clear A20
  replace H := Option.bind_eq_some_iff.mp H
  obtain ⟨t275, A30, H⟩ := H
  replace H : (some (t272, a0_1, a0_2, a0_3, a0_4, a0_5, t275)) = some (r1, r2, r3, r4, r5, r6, r7) := H
  have A3 := Aside0.mk A30
  clear A30
  simp only [Option.some.injEq, Prod.mk.injEq] at H
  obtain ⟨rfl, rfl, rfl, rfl, rfl, rfl, rfl⟩ := H
  go_enter Try.func154, Try.ntmps154
  try go_wp2_with (first | ((with_reducible refine gate_dst (N := 1) rfl ?_); refine box_event ?hg (N := 1) ?hd (cs := #[.slice A0_0 l0_0.length c0_0, .int .i64 a0_1, .int .i64 a0_2, .int .i64 a0_3, .int .i64 a0_4, .int .i64 a0_5, .slice A0_6 l0_6.length c0_6]) (t := 34) ?hr ?_; (case hd => rfl); (case hg => rfl); (case hr => first | (go_simp; done) | (go_simp; rfl)); intro gb270 hg w4 hbox hb; have n0_ := Aside0.mk (below_step (by repeat (first | (with_reducible first | exact HB.out | apply below_alloc | apply pw_below_drewN | apply below_drew1) | exact HB.out)) hb); have n1_ := Aside0.mk (hbox); have n2_ := Aside0.mk ((by rw [hg]; exact (below_size (by repeat (first | (with_reducible first | exact HB.out | apply below_alloc | apply pw_below_drewN | apply below_drew1) | exact HB.out))) : w.heap.size ≤ gb270)); have n3_ := Aside0.mk ((by rw [hg]; exact (below_size (by repeat (first | (with_reducible first | exact HB.out | apply below_alloc | apply pw_below_drewN | apply below_drew1) | exact HB.out))) : w.heap.size ≤ gb270)); clear HB; have HB := n0_; have BK270 := n1_; have GW270 := n2_; have GE270 := n3_; clear n0_ n1_ n2_ n3_; clear hb hbox hg) | ((with_reducible refine gate_dst (N := 2) rfl ?_); refine box_event ?hg (N := 2) ?hd (cs := #[.slice none 0 0, .int .i64 0, .int .i64 0, .int .i64 0, .int .i64 0, .int .i64 0, .slice none 0 0]) (t := 34) ?hr ?_; (case hd => rfl); (case hg => rfl); (case hr => first | (go_simp; done) | (go_simp; rfl)); intro gb271 hg w5 hbox hb; have n0_ := Aside0.mk (blk_below (g := gb270) (o := .cells #[.slice A0_0 l0_0.length c0_0, .int .i64 a0_1, .int .i64 a0_2, .int .i64 a0_3, .int .i64 a0_4, .int .i64 a0_5, .slice A0_6 l0_6.length c0_6] 34 (0, 0)) (by (with_reducible repeat (first | refine blk_drewN ?_ _ | refine blk_drew ?_ | refine blk_alloc ?_ _)); exact BK270.out) hb); have n1_ := Aside0.mk (below_step (by repeat (first | (with_reducible first | exact HB.out | apply below_alloc | apply pw_below_drewN | apply below_drew1 | refine below_set ?_ GE270.out) | exact HB.out)) hb); have n2_ := Aside0.mk (hbox); have n3_ := Aside0.mk ((by rw [hg]; exact (below_size (by repeat (first | (with_reducible first | exact HB.out | apply below_alloc | apply pw_below_drewN | apply below_drew1 | refine below_set ?_ GE270.out) | exact HB.out))) : w.heap.size ≤ gb271)); have n4_ := Aside0.mk ((by rw [hg]; exact (below_size (by repeat (first | (with_reducible first | exact HB.out | apply below_alloc | apply pw_below_drewN | apply below_drew1 | refine below_set ?_ GE270.out) | exact HB.out))) : w.heap.size ≤ gb271)); have n5_ := Aside0.mk ((by rw [hg]; exact Nat.ne_of_lt (blk_lt (g := gb270) (o := .cells #[.slice A0_0 l0_0.length c0_0, .int .i64 a0_1, .int .i64 a0_2, .int .i64 a0_3, .int .i64 a0_4, .int .i64 a0_5, .slice A0_6 l0_6.length c0_6] 34 (0, 0)) (by (with_reducible repeat (first | refine blk_drewN ?_ _ | refine blk_drew ?_ | refine blk_alloc ?_ _)); exact BK270.out)) : gb270 ≠ gb271)); have n6_ := Aside0.mk ((by rw [hg]; exact Nat.ne_of_gt (blk_lt (g := gb270) (o := .cells #[.slice A0_0 l0_0.length c0_0, .int .i64 a0_1, .int .i64 a0_2, .int .i64 a0_3, .int .i64 a0_4, .int .i64 a0_5, .slice A0_6 l0_6.length c0_6] 34 (0, 0)) (by (with_reducible repeat (first | refine blk_drewN ?_ _ | refine blk_drew ?_ | refine blk_alloc ?_ _)); exact BK270.out)) : gb271 ≠ gb270)); clear BK270; clear HB; have BK270 := n0_; have HB := n1_; have BK271 := n2_; have GW271 := n3_; have GE271 := n4_; have NB270_271 := n5_; have NB271_270 := n6_; clear n0_ n1_ n2_ n3_ n4_ n5_ n6_; clear hb hbox hg))
  have n0_ := Aside0.mk (blk_drew BK270.out)
  have n1_ := Aside0.mk (blk_drew BK271.out)
  have n2_ := Aside0.mk (below_drew1 HB.out)
  clear BK270
  clear BK271
  clear HB
  have BK270 := n0_
  have BK271 := n1_
  have HB := n2_
  clear n0_ n1_ n2_
  refine start_ (n := 10) (S := fun w' => w'.cell? ⟨gb270, 0, none⟩ = some (.slice A0_0 l0_0.length c0_0) ∧ w'.cell? ⟨gb270, 1, none⟩ = some (.int .i64 a0_1) ∧ w'.cell? ⟨gb270, 2, none⟩ = some (.int .i64 a0_2) ∧ w'.cell? ⟨gb270, 3, none⟩ = some (.int .i64 a0_3) ∧ w'.cell? ⟨gb270, 4, none⟩ = some (.int .i64 a0_4) ∧ w'.cell? ⟨gb270, 5, none⟩ = some (.int .i64 a0_5) ∧ w'.cell? ⟨gb270, 6, none⟩ = some (.slice A0_6 l0_6.length c0_6)) (ds := [7, 9]) #[false, false, false, false, false, false, false, false, false, false] (by kernel_rfl) rfl rfl ⟨(blk_cell BK270.out 0).trans rfl, (blk_cell BK270.out 1).trans rfl, (blk_cell BK270.out 2).trans rfl, (blk_cell BK270.out 3).trans rfl, (blk_cell BK270.out 4).trans rfl, (blk_cell BK270.out 5).trans rfl, (blk_cell BK270.out 6).trans rfl⟩ (fun hHeld => ?_); refine with_tabW impl_Arena_own.tab1 impl_Arena_own.bits1 (fun HT_ HW_ => ?_)
  generalize w5.drew = w6 at BK270 BK271 HB hHeld ⊢
  refine pure_ (i := 0) (N := some 3) (v := ?_) (a' := ?_) #[true, false, false, false, false, false, false, false, false, false] rfl rfl (any_of HT_.out (by kernel_rfl)) (fun _ _ _ h => h) (Or.inl ⟨by rfl, ?_⟩) ?_ ?_
  rotate_left
  · intro w'
    go_simp
    with_reducible rfl
  rotate_left
  · simp only [Act.put, List.setIfInBounds_toArray, List.set_cons_zero, List.set_cons_succ, i64_w, i32_w]
    rfl
  refine pure_ (i := 3) (N := some 6) (v := ?_) (a' := ?_) #[true, false, false, true, false, false, false, false, false, false] rfl rfl (any_of HT_.out (by kernel_rfl)) (fun _ _ _ h => h) (Or.inl ⟨by rfl, ?_⟩) ?_ ?_
  rotate_left
  · intro w'
    go_simp
    with_reducible rfl
  rotate_left
  · simp only [Act.put, List.setIfInBounds_toArray, List.set_cons_zero, List.set_cons_succ, i64_w, i32_w]
    rfl
  refine take_ (i := 1) (N := some 4) (v := ?_) (a' := ?_) #[true, true, false, true, false, false, false, false, false, false] rfl rfl (take_ofW HT_.out HW_.out (by kernel_rfl)) (fun _ _ _ h => h) (Or.inl ⟨by rfl, ?_⟩) hHeld ?_ ?_
  rotate_left
  · rintro w' ⟨s0, s1, s2, s3, s4, s5, s6⟩
    go_simp
    with_reducible rfl
  rotate_left
  · simp only [Act.put, List.setIfInBounds_toArray, List.set_cons_zero, List.set_cons_succ, i64_w, i32_w]
    rfl
  refine take_ (i := 4) (N := some 7) (v := ?_) (a' := ?_) #[true, true, false, true, true, false, false, false, false, false] rfl rfl (take_ofW HT_.out HW_.out (by kernel_rfl)) (fun _ _ _ h => h) (Or.inl ⟨by rfl, ?_⟩) hHeld ?_ ?_
  rotate_left
  · rintro w' ⟨s0, s1, s2, s3, s4, s5, s6⟩
    go_simp
    with_reducible rfl
  rotate_left
  · simp only [Act.put, List.setIfInBounds_toArray, List.set_cons_zero, List.set_cons_succ, i64_w, i32_w]
    rfl
  refine one_ (i := 2) (N := some 5) #[true, true, true, true, true, false, false, false, false, false] rfl rfl (one_of HT_.out (by kernel_rfl)) (by decide) (fun K hK => ?_)
  refine goes_ Try.func178 (by kernel_rfl) rfl #[.agg #[.slice A0_0 l0_0.length c0_0]] (by rfl) rfl rfl (by (try simp only [List.map_toArray, List.map_cons, List.map_nil]); first | done | rfl | (simp only [List.length_drop, List.length_take]; rfl)) ?_
  with_reducible refine (impl_Memory_own.calls k _ _ l0_0 t272 _ ?side1 ?side2 A2.out).mono ?_
  (case side1 => repeat (first | exact (Kd.C_below HR0_0.out HB.out) | (with_reducible refine Kd.C_alloc ?_ _) | (with_reducible refine Kd.C_drewN ?_ _) | (with_reducible refine Kd.C_drew ?_)))
  (case side2 => exact HC0_0.out)
  rintro e w7 ⟨v273, rfl, ho0, hb⟩
  refine ⟨_, rfl, ?_⟩
  have n0_ := Aside0.mk (Kd.S_lower ho0 (below_size (by repeat (first | (with_reducible first | exact HB.out | apply below_alloc | apply pw_below_drewN | apply below_drew1 | refine below_set ?_ GE270.out | refine below_set ?_ GE271.out) | exact HB.out))))
  have n1_ := Aside0.mk (blk_below (g := gb270) (o := .cells #[.slice A0_0 l0_0.length c0_0, .int .i64 a0_1, .int .i64 a0_2, .int .i64 a0_3, .int .i64 a0_4, .int .i64 a0_5, .slice A0_6 l0_6.length c0_6] 34 (0, 0)) (by (with_reducible repeat (first | refine blk_drewN ?_ _ | refine blk_drew ?_ | refine blk_alloc ?_ _)); exact BK270.out) hb)
  have n2_ := Aside0.mk (blk_below (g := gb271) (o := .cells #[.slice none 0 0, .int .i64 0, .int .i64 0, .int .i64 0, .int .i64 0, .int .i64 0, .slice none 0 0] 34 (0, 0)) (by (with_reducible repeat (first | refine blk_drewN ?_ _ | refine blk_drew ?_ | refine blk_alloc ?_ _)); exact BK271.out) hb)
  have n3_ := Aside0.mk (below_step (by repeat (first | (with_reducible first | exact HB.out | apply below_alloc | apply pw_below_drewN | apply below_drew1 | refine below_set ?_ GE270.out | refine below_set ?_ GE271.out) | exact HB.out)) hb)
  clear BK270
  clear BK271
  clear HB
  have HO274 := n0_
  have BK270 := n1_
  have BK271 := n2_
  have HB := n3_
  clear n0_ n1_ n2_ n3_
  (try clear hb)
  (try clear hb2)
  (try clear hk)
  (try clear hi)
  (try clear ho0)
  refine hK.out _ _ ⟨(blk_cell BK270.out 0).trans rfl, (blk_cell BK270.out 1).trans rfl, (blk_cell BK270.out 2).trans rfl, (blk_cell BK270.out 3).trans rfl, (blk_cell BK270.out 4).trans rfl, (blk_cell BK270.out 5).trans rfl, (blk_cell BK270.out 6).trans rfl⟩ (fun hHeld => ?_)
  clear hK K
  refine norm_ (a' := ?_) ?_ ?_
  rotate_left
  · show Act.put _ (some 5) _ = _
    simp only [Act.put, List.setIfInBounds_toArray, List.set_cons_zero, List.set_cons_succ, i64_w, i32_w]
    rfl
  refine pure_ (i := 6) (N := some 9) (v := ?_) (a' := ?_) #[true, true, true, true, true, false, true, false, false, false] rfl rfl (any_of HT_.out (by kernel_rfl)) (fun _ _ _ h => h) (Or.inl ⟨by rfl, ?_⟩) ?_ ?_
  rotate_left
  · intro w'
    go_simp
    with_reducible rfl
  rotate_left
  · simp only [Act.put, List.setIfInBounds_toArray, List.set_cons_zero, List.set_cons_succ, i64_w, i32_w]
    rfl
  refine one_ (i := 5) (N := some 8) #[true, true, true, true, true, true, true, false, false, false] rfl rfl (one_of HT_.out (by kernel_rfl)) (by decide) (fun K hK => ?_)
  refine goes_ Try.func276 (by kernel_rfl) rfl #[.slice A0_6 l0_6.length c0_6] (by rfl) rfl rfl (by (try simp only [List.map_toArray, List.map_cons, List.map_nil]); first | done | rfl | (simp only [List.length_drop, List.length_take]; rfl)) ?_
  with_reducible refine (slices_Clone_int.calls _ _ l0_6 t275 _ ?side1 ?side2 A3.out).mono ?_
  (case side1 => repeat (first | exact (Kd.C_below HR0_6.out HB.out) | (with_reducible refine Kd.C_alloc ?_ _) | (with_reducible refine Kd.C_drewN ?_ _) | (with_reducible refine Kd.C_drew ?_)))
  (case side2 => exact HC0_6.out)
  rintro e w8 ⟨v276, rfl, ho0, hb⟩
  refine ⟨_, rfl, ?_⟩
  have n0_ := Aside0.mk (Kd.S_below (by (with_reducible repeat (first | apply Kd.S_alloc | apply Kd.S_drewN | apply Kd.S_drew)); exact HO274.out) hb)
  have n1_ := Aside0.mk (Kd.R_lower ho0 (below_size (by repeat (first | (with_reducible first | exact HB.out | apply below_alloc | apply pw_below_drewN | apply below_drew1 | refine below_set ?_ GE270.out | refine below_set ?_ GE271.out) | exact HB.out))))
  have n2_ := Aside0.mk (blk_below (g := gb270) (o := .cells #[.slice A0_0 l0_0.length c0_0, .int .i64 a0_1, .int .i64 a0_2, .int .i64 a0_3, .int .i64 a0_4, .int .i64 a0_5, .slice A0_6 l0_6.length c0_6] 34 (0, 0)) (by (with_reducible repeat (first | refine blk_drewN ?_ _ | refine blk_drew ?_ | refine blk_alloc ?_ _)); exact BK270.out) hb)
  have n3_ := Aside0.mk (blk_below (g := gb271) (o := .cells #[.slice none 0 0, .int .i64 0, .int .i64 0, .int .i64 0, .int .i64 0, .int .i64 0, .slice none 0 0] 34 (0, 0)) (by (with_reducible repeat (first | refine blk_drewN ?_ _ | refine blk_drew ?_ | refine blk_alloc ?_ _)); exact BK271.out) hb)
  have n4_ := Aside0.mk (below_step (by repeat (first | (with_reducible first | exact HB.out | apply below_alloc | apply pw_below_drewN | apply below_drew1 | refine below_set ?_ GE270.out | refine below_set ?_ GE271.out) | exact HB.out)) hb)
  clear HO274
  clear BK270
  clear BK271
  clear HB
  have HO274 := n0_
  have HO277 := n1_
  have BK270 := n2_
  have BK271 := n3_
  have HB := n4_
  clear n0_ n1_ n2_ n3_ n4_
  (try clear hb)
  (try clear hb2)
  (try clear hk)
  (try clear hi)
  (try clear ho0)
  obtain ⟨Ao9, co9, eo9⟩ := Kd.S_slice HO274.out
  (first | subst eo9 | (injection eo9 with f1_ f2_ f3_; have f4_ := f1_.symm; have f5_ := f3_.symm; clear f1_ f2_ f3_; subst f4_; subst f5_))
  obtain ⟨Ao11, co11, eo11⟩ := Kd.R_slice HO277.out
  (first | subst eo11 | (injection eo11 with f1_ f2_ f3_; have f4_ := f1_.symm; have f5_ := f3_.symm; clear f1_ f2_ f3_; subst f4_; subst f5_))
  refine hK.out _ _ ⟨(blk_cell BK270.out 0).trans rfl, (blk_cell BK270.out 1).trans rfl, (blk_cell BK270.out 2).trans rfl, (blk_cell BK270.out 3).trans rfl, (blk_cell BK270.out 4).trans rfl, (blk_cell BK270.out 5).trans rfl, (blk_cell BK270.out 6).trans rfl⟩ (fun hHeld => ?_)
  clear hK K
  refine norm_ (a' := ?_) ?_ ?_
  rotate_left
  · show Act.put _ (some 8) _ = _
    simp only [Act.put, List.setIfInBounds_toArray, List.set_cons_zero, List.set_cons_succ, i64_w, i32_w]
    rfl
  refine last_ (i := 7) (N := none) #[true, true, true, true, true, true, true, true, false, false] rfl rfl (one_of HT_.out (by kernel_rfl)) (by decide) (fun K hK => ?_)
  have hs10 : w8.cell? ⟨gb270, 0, none⟩ = some (.slice A0_0 l0_0.length c0_0) := (blk_cell BK270.out 0).trans rfl
  have hfs10 := blk_frozen BK270.out 0
  have hns10_1 := NB271_270.out
  have hms10_1 := NB270_271.out
  refine skip_ (w1 := ?_) (by rfl) rfl ?_ ?_
  rotate_left
  · go_simp
    rfl
  refine hK.out _ _ ?_
  clear hK K
  refine pure_ (i := 8) (N := some 10) (v := ?_) (a' := ?_) #[true, true, true, true, true, true, true, true, true, false] rfl rfl (any_of HT_.out (by kernel_rfl)) (fun _ _ _ h => h) (Or.inl ⟨by rfl, ?_⟩) ?_ ?_
  rotate_left
  · intro w'
    go_simp
    with_reducible rfl
  rotate_left
  · simp only [Act.put, List.setIfInBounds_toArray, List.set_cons_zero, List.set_cons_succ, i64_w, i32_w]
    rfl
  refine last_ (i := 9) (N := none) #[true, true, true, true, true, true, true, true, true, true] rfl rfl (one_of HT_.out (by kernel_rfl)) (by decide) (fun K hK => ?_)
  have hs12 : w8.cell? ⟨gb270, 6, none⟩ = some (.slice A0_6 l0_6.length c0_6) := (blk_cell BK270.out 6).trans rfl
  have hfs12 := blk_frozen BK270.out 6
  have hns12_1 := NB271_270.out
  have hms12_1 := NB270_271.out
  refine skip_ (w1 := ?_) (by rfl) rfl ?_ ?_
  rotate_left
  · go_simp
    rfl
  refine hK.out _ _ ?_
  clear hK K
  refine done_ (done_of HT_.out (by kernel_rfl)) ?_
  have hnb13 := NB270_271.out
  have hnc13 := NB271_270.out
  have hcz14_0 : w8.cell? ⟨gb270, 0, none⟩ = some (.slice A0_0 l0_0.length c0_0) := (blk_cell BK270.out 0).trans rfl
  have hcz14_1 : w8.cell? ⟨gb270, 1, none⟩ = some (.int .i64 a0_1) := (blk_cell BK270.out 1).trans rfl
  have hcz14_2 : w8.cell? ⟨gb270, 2, none⟩ = some (.int .i64 a0_2) := (blk_cell BK270.out 2).trans rfl
  have hcz14_3 : w8.cell? ⟨gb270, 3, none⟩ = some (.int .i64 a0_3) := (blk_cell BK270.out 3).trans rfl
  have hcz14_4 : w8.cell? ⟨gb270, 4, none⟩ = some (.int .i64 a0_4) := (blk_cell BK270.out 4).trans rfl
  have hcz14_5 : w8.cell? ⟨gb270, 5, none⟩ = some (.int .i64 a0_5) := (blk_cell BK270.out 5).trans rfl
  have hcz14_6 : w8.cell? ⟨gb270, 6, none⟩ = some (.slice A0_6 l0_6.length c0_6) := (blk_cell BK270.out 6).trans rfl
  have hfz14_0 := blk_frozen BK270.out 0
  have hfz14_1 := blk_frozen BK270.out 1
  have hfz14_2 := blk_frozen BK270.out 2
  have hfz14_3 := blk_frozen BK270.out 3
  have hfz14_4 := blk_frozen BK270.out 4
  have hfz14_5 := blk_frozen BK270.out 5
  have hfz14_6 := blk_frozen BK270.out 6
  have hcz15_0 : w8.cell? ⟨gb271, 0, none⟩ = some (.slice none 0 0) := (blk_cell BK271.out 0).trans rfl
  have hcz15_1 : w8.cell? ⟨gb271, 1, none⟩ = some (.int .i64 0) := (blk_cell BK271.out 1).trans rfl
  have hcz15_2 : w8.cell? ⟨gb271, 2, none⟩ = some (.int .i64 0) := (blk_cell BK271.out 2).trans rfl
  have hcz15_3 : w8.cell? ⟨gb271, 3, none⟩ = some (.int .i64 0) := (blk_cell BK271.out 3).trans rfl
  have hcz15_4 : w8.cell? ⟨gb271, 4, none⟩ = some (.int .i64 0) := (blk_cell BK271.out 4).trans rfl
  have hcz15_5 : w8.cell? ⟨gb271, 5, none⟩ = some (.int .i64 0) := (blk_cell BK271.out 5).trans rfl
  have hcz15_6 : w8.cell? ⟨gb271, 6, none⟩ = some (.slice none 0 0) := (blk_cell BK271.out 6).trans rfl
  have hfz15_0 := blk_frozen BK271.out 0
  have hfz15_1 := blk_frozen BK271.out 1
  have hfz15_2 := blk_frozen BK271.out 2
  have hfz15_3 := blk_frozen BK271.out 3
  have hfz15_4 := blk_frozen BK271.out 4
  have hfz15_5 := blk_frozen BK271.out 5
  have hfz15_6 := blk_frozen BK271.out 6
  try go_wp2
  refine bodyPost_ret (results_cell_row rfl _ _ gb271 34 #[.slice Ao9 t272.length co9, .int .i64 a0_1, .int .i64 a0_2, .int .i64 a0_3, .int .i64 a0_4, .int .i64 a0_5, .slice Ao11 t275.length co11] (0, 0) _ rfl (by (with_reducible repeat (first | refine blk_drewN ?_ _ | refine blk_drew ?_ | refine blk_alloc ?_ _)); refine blk_put (cs := #[.slice Ao9 t272.length co9, .int .i64 a0_1, .int .i64 a0_2, .int .i64 a0_3, .int .i64 a0_4, .int .i64 a0_5, .slice none 0 0]) ?_ 6 _ rfl; (with_reducible repeat (first | refine blk_drewN ?_ _ | refine blk_drew ?_ | refine blk_alloc ?_ _)); refine blk_put (cs := #[.slice Ao9 t272.length co9, .int .i64 a0_1, .int .i64 a0_2, .int .i64 a0_3, .int .i64 a0_4, .int .i64 0, .slice none 0 0]) ?_ 5 _ rfl; (with_reducible repeat (first | refine blk_drewN ?_ _ | refine blk_drew ?_ | refine blk_alloc ?_ _)); refine blk_put (cs := #[.slice Ao9 t272.length co9, .int .i64 a0_1, .int .i64 a0_2, .int .i64 a0_3, .int .i64 0, .int .i64 0, .slice none 0 0]) ?_ 4 _ rfl; (with_reducible repeat (first | refine blk_drewN ?_ _ | refine blk_drew ?_ | refine blk_alloc ?_ _)); refine blk_put (cs := #[.slice Ao9 t272.length co9, .int .i64 a0_1, .int .i64 a0_2, .int .i64 0, .int .i64 0, .int .i64 0, .slice none 0 0]) ?_ 3 _ rfl; (with_reducible repeat (first | refine blk_drewN ?_ _ | refine blk_drew ?_ | refine blk_alloc ?_ _)); refine blk_put (cs := #[.slice Ao9 t272.length co9, .int .i64 a0_1, .int .i64 0, .int .i64 0, .int .i64 0, .int .i64 0, .slice none 0 0]) ?_ 2 _ rfl; (with_reducible repeat (first | refine blk_drewN ?_ _ | refine blk_drew ?_ | refine blk_alloc ?_ _)); refine blk_put (cs := #[.slice Ao9 t272.length co9, .int .i64 0, .int .i64 0, .int .i64 0, .int .i64 0, .int .i64 0, .slice none 0 0]) ?_ 1 _ rfl; (with_reducible repeat (first | refine blk_drewN ?_ _ | refine blk_drew ?_ | refine blk_alloc ?_ _)); refine blk_put (cs := #[.slice none 0 0, .int .i64 0, .int .i64 0, .int .i64 0, .int .i64 0, .int .i64 0, .slice none 0 0]) ?_ 0 _ rfl; (with_reducible repeat (first | refine blk_drewN ?_ _ | refine blk_drew ?_ | refine blk_alloc ?_ _)); refine blk_far ?_ NB271_270.out _; (with_reducible repeat (first | refine blk_drewN ?_ _ | refine blk_drew ?_ | refine blk_alloc ?_ _)); refine blk_far ?_ NB271_270.out _; (with_reducible repeat (first | refine blk_drewN ?_ _ | refine blk_drew ?_ | refine blk_alloc ?_ _)); exact BK271.out) Try.underlying34 rfl (by kernel_rfl)) rfl ?_
  exact ⟨_, _, by first | rfl | (simp [errW_none, errW_some] <;> rfl) | (simp [*, errW_none, errW_some] <;> rfl), by (with_reducible repeat (first | apply Kd.S_alloc | apply Kd.S_drewN | apply Kd.S_drew)); exact Kd.S_mono (Kd.S_far (p := ⟨gb271, 6, none⟩) (Kd.S_far (p := ⟨gb271, 5, none⟩) (Kd.S_far (p := ⟨gb271, 4, none⟩) (Kd.S_far (p := ⟨gb271, 3, none⟩) (Kd.S_far (p := ⟨gb271, 2, none⟩) (Kd.S_far (p := ⟨gb271, 1, none⟩) (Kd.S_far (p := ⟨gb271, 0, none⟩) (Kd.S_far (p := ⟨gb270, 6, none⟩) (Kd.S_far (p := ⟨gb270, 0, none⟩) (Kd.S_types (Kd.S_types HO274.out BK270.out (by decide)) BK271.out (by decide)) (fun _ hk => hk.1.2) (.slice Ao9 t272.length co9)) (fun _ hk => hk.1.2) (.slice Ao11 t275.length co11)) (fun _ hk => hk.2) (.slice Ao9 t272.length co9)) (fun _ hk => hk.2) (.int .i64 a0_1)) (fun _ hk => hk.2) (.int .i64 a0_2)) (fun _ hk => hk.2) (.int .i64 a0_3)) (fun _ hk => hk.2) (.int .i64 a0_4)) (fun _ hk => hk.2) (.int .i64 a0_5)) (fun _ hk => hk.2) (.slice Ao11 t275.length co11)) (fun _ hk => trivial), by (with_reducible repeat (first | apply Kd.R_alloc | apply Kd.R_drewN | apply Kd.R_drew)); exact Kd.R_mono (Kd.R_far (p := ⟨gb271, 6, none⟩) (Kd.R_far (p := ⟨gb271, 5, none⟩) (Kd.R_far (p := ⟨gb271, 4, none⟩) (Kd.R_far (p := ⟨gb271, 3, none⟩) (Kd.R_far (p := ⟨gb271, 2, none⟩) (Kd.R_far (p := ⟨gb271, 1, none⟩) (Kd.R_far (p := ⟨gb271, 0, none⟩) (Kd.R_far (p := ⟨gb270, 6, none⟩) (Kd.R_far (p := ⟨gb270, 0, none⟩) (Kd.R_types (Kd.R_types HO277.out BK270.out (by decide)) BK271.out (by decide)) (fun _ hk => hk.1.2) (.slice Ao9 t272.length co9)) (fun _ hk => hk.1.2) (.slice Ao11 t275.length co11)) (fun _ hk => hk.2) (.slice Ao9 t272.length co9)) (fun _ hk => hk.2) (.int .i64 a0_1)) (fun _ hk => hk.2) (.int .i64 a0_2)) (fun _ hk => hk.2) (.int .i64 a0_3)) (fun _ hk => hk.2) (.int .i64 a0_4)) (fun _ hk => hk.2) (.int .i64 a0_5)) (fun _ hk => hk.2) (.slice Ao11 t275.length co11)) (fun _ hk => trivial), by repeat (first | (with_reducible first | exact HB.out | apply below_alloc | apply pw_below_drewN | apply below_drew1 | refine below_set ?_ GE270.out | refine below_set ?_ GE271.out) | exact HB.out)⟩
end Go.Proofs.Ythlppjdlljofdaa.P
namespace Go.Proofs.Ythlppjdlljofdaa.P
open Go.RowKit Go.Proofs.YthlppjdlljofdaaW.PrintWords Go.Proofs.YthlppjdlljofdaaW.PrintLast Go.Proofs.YthlppjdlljofdaaW.PrintMore
set_option linter.unusedVariables false
set_option linter.unusedSimpArgs false

def impl_GiveAll.f (k : Nat) (l0_0 : List (List Int)) (a0_1 : Int) (a0_2 : Int) (a0_3 : Int) (a0_4 : Int) (a0_5 : Int) (l0_6 : List Int) (l1 : List S128) : Option ((List (List Int)) × Int × Int × Int × Int × Int × List Int × List S32 × Bool) :=
  (impl_areAsked.f k l0_0 a0_1 a0_2 a0_3 a0_4 a0_5 l0_6 l1).bind fun t => if t = true then ((impl_Arena_own.f k l0_0 a0_1 a0_2 a0_3 a0_4 a0_5 l0_6).bind fun o => if (∀ q ∈ l1, q.f1 ≠ 0) ∧ l1.length ≤ 1048576 then (if (giveRun a0_1 a0_2 a0_3 l1 a0_5 []).2.2 = true then some (o.1, a0_1, a0_2, a0_3, a0_4, (giveRun a0_1 a0_2 a0_3 l1 a0_5 []).1, o.2.2.2.2.2.2, (giveRun a0_1 a0_2 a0_3 l1 a0_5 []).2.1, true) else some ([], 0, 0, 0, 0, 0, [], [], false)) else none) else some ([], 0, 0, 0, 0, 0, [], [], false)

set_option maxHeartbeats 8000000 in
set_option maxRecDepth 100000 in
theorem impl_GiveAll.calls (k : Nat) (A0_0 : Option Addr) (c0_0 : Nat) (l0_0 : List (List Int)) (a0_1 : Int) (a0_2 : Int) (a0_3 : Int) (a0_4 : Int) (a0_5 : Int) (A0_6 : Option Addr) (c0_6 : Nat) (l0_6 : List Int) (A1 : Option Addr) (c1 : Nat) (l1 : List S128) (r1 : List (List Int)) (r2 : Int) (r3 : Int) (r4 : Int) (r5 : Int) (r6 : Int) (r7 : List Int) (r8 : List S32) (r9 : Bool) (w : World) (hr0_0 : Kd.C (Kd.slice 5 (Kd.int .u8)) w A0_0 l0_0.length l0_0) (hc0_0 : l0_0.length ≤ c0_0) (hr0_6 : Kd.C (Kd.int .i64) w A0_6 l0_6.length l0_6) (hc0_6 : l0_6.length ≤ c0_6) (hr1 : Kd.C k128 w A1 l1.length l1) (hc1 : l1.length ≤ c1) (h : impl_GiveAll.f k l0_0 a0_1 a0_2 a0_3 a0_4 a0_5 l0_6 l1 = some (r1, r2, r3, r4, r5, r6, r7, r8, r9)) :
    Calls Try.prog 200 #[.agg #[(.slice A0_0 l0_0.length c0_0), (.int .i64 a0_1), (.int .i64 a0_2), (.int .i64 a0_3), (.int .i64 a0_4), (.int .i64 a0_5), (.slice A0_6 l0_6.length c0_6)], .slice A1 l1.length c1] w fun e w' => ∃ v0_ v6_ v7_ : Value, e = .returned (.tuple #[.agg #[v0_, .int .i64 r2, .int .i64 r3, .int .i64 r4, .int .i64 r5, .int .i64 r6, v6_], v7_, .bool r9]) ∧ Kd.S (Kd.slice 5 (Kd.int .u8)) 62 w' w.heap.size (fun _ => True) v0_ r1 ∧ Kd.R (Kd.int .i64) 3 w' w.heap.size (fun _ => True) v6_ r7 ∧ Kd.R k32 32 w' w.heap.size (fun _ => True) v7_ r8 ∧ Below w.heap.size w w' := by
  have hu1 := Try.underlying34
  obtain ⟨t, ht, h⟩ := Option.bind_eq_some_iff.mp (show (impl_areAsked.f k l0_0 a0_1 a0_2 a0_3 a0_4 a0_5 l0_6 l1).bind _ = _ from h)
  have HR0 := Aside0.mk hr0_0
  have HC0 := Aside0.mk hc0_0
  have HR6 := Aside0.mk hr0_6
  have HC6 := Aside0.mk hc0_6
  have HR1 := Aside0.mk hr1
  have HC1 := Aside0.mk hc1
  have HT := Aside0.mk ht
  have HH := Aside0.mk h
  clear hr0_0 hc0_0 hr0_6 hc0_6 hr1 hc1 ht h
  have HA1 := Below.alloc (Below.refl w.heap.size w) (Nat.le_refl _) (.cells #[(.slice A0_0 l0_0.length c0_0), (.int .i64 a0_1), (.int .i64 a0_2), (.int .i64 a0_3), (.int .i64 a0_4), (.int .i64 a0_5), (.slice A0_6 l0_6.length c0_6)] 34)
  have HA2 := Below.alloc (Below.refl (w.alloc (.cells #[(.slice A0_0 l0_0.length c0_0), (.int .i64 a0_1), (.int .i64 a0_2), (.int .i64 a0_3), (.int .i64 a0_4), (.int .i64 a0_5), (.slice A0_6 l0_6.length c0_6)] 34)).heap.size (w.alloc (.cells #[(.slice A0_0 l0_0.length c0_0), (.int .i64 a0_1), (.int .i64 a0_2), (.int .i64 a0_3), (.int .i64 a0_4), (.int .i64 a0_5), (.slice A0_6 l0_6.length c0_6)] 34))) (Nat.le_refl _) (.cells #[(.slice none 0 0), (.int .i64 0), (.int .i64 0), (.int .i64 0), (.int .i64 0), (.int .i64 0), (.slice none 0 0)] 34)
  have BK1 := Aside0.mk (blk_below (heap_alloc_new w (.cells #[(.slice A0_0 l0_0.length c0_0), (.int .i64 a0_1), (.int .i64 a0_2), (.int .i64 a0_3), (.int .i64 a0_4), (.int .i64 a0_5), (.slice A0_6 l0_6.length c0_6)] 34)) HA2)
  have BK2 := Aside0.mk (heap_alloc_new (w.alloc (.cells #[(.slice A0_0 l0_0.length c0_0), (.int .i64 a0_1), (.int .i64 a0_2), (.int .i64 a0_3), (.int .i64 a0_4), (.int .i64 a0_5), (.slice A0_6 l0_6.length c0_6)] 34)) (.cells #[(.slice none 0 0), (.int .i64 0), (.int .i64 0), (.int .i64 0), (.int .i64 0), (.int .i64 0), (.slice none 0 0)] 34))
  have HB := Aside0.mk (below_step HA1 HA2)
  rw [show (w.alloc (.cells #[(.slice A0_0 l0_0.length c0_0), (.int .i64 a0_1), (.int .i64 a0_2), (.int .i64 a0_3), (.int .i64 a0_4), (.int .i64 a0_5), (.slice A0_6 l0_6.length c0_6)] 34)).heap.size = w.heap.size + 1 by simp] at *
  clear HA1 HA2
  go_enter Try.func200, Try.ntmps200
  go_wp2_with fail
  refine (impl_areAsked.calls k A0_0 c0_0 l0_0 a0_1 a0_2 a0_3 a0_4 a0_5 A0_6 c0_6 l0_6 A1 c1 l1 t _ (Kd.C_below HR0.out HB.out) HC0.out (Kd.C_below HR6.out HB.out) HC6.out (Kd.C_below HR1.out HB.out) HC1.out HT.out).mono ?_
  rintro e w1 ⟨rfl, hb⟩
  replace BK1 := Aside0.mk (blk_below BK1.out hb)
  replace BK2 := Aside0.mk (blk_below BK2.out hb)
  have Z1 := Aside0.mk (show w.heap.size + 2 ≤ w1.heap.size by have := below_size hb; simpa using this)
  replace HB := Aside0.mk (below_step HB.out hb)
  clear hb HT
  cases t with
  | false =>
    have h1 := HH.out
    rw [if_neg (by decide)] at h1
    simp only [Option.some.injEq, Prod.mk.injEq] at h1
    obtain ⟨rfl, rfl, rfl, rfl, rfl, rfl, rfl, rfl, rfl⟩ := h1
    have z0 : w1.cell? ⟨w.heap.size + 1, 0, none⟩ = some (.slice none 0 0) := (blk_cell BK2.out 0).trans rfl
    have z1 : w1.cell? ⟨w.heap.size + 1, 1, none⟩ = some (.int .i64 0) := (blk_cell BK2.out 1).trans rfl
    have z2 : w1.cell? ⟨w.heap.size + 1, 2, none⟩ = some (.int .i64 0) := (blk_cell BK2.out 2).trans rfl
    have z3 : w1.cell? ⟨w.heap.size + 1, 3, none⟩ = some (.int .i64 0) := (blk_cell BK2.out 3).trans rfl
    have z4 : w1.cell? ⟨w.heap.size + 1, 4, none⟩ = some (.int .i64 0) := (blk_cell BK2.out 4).trans rfl
    have z5 : w1.cell? ⟨w.heap.size + 1, 5, none⟩ = some (.int .i64 0) := (blk_cell BK2.out 5).trans rfl
    have z6 : w1.cell? ⟨w.heap.size + 1, 6, none⟩ = some (.slice none 0 0) := (blk_cell BK2.out 6).trans rfl
    have zf0 := blk_frozen BK2.out 0
    have zf1 := blk_frozen BK2.out 1
    have zf2 := blk_frozen BK2.out 2
    have zf3 := blk_frozen BK2.out 3
    have zf4 := blk_frozen BK2.out 4
    have zf5 := blk_frozen BK2.out 5
    have zf6 := blk_frozen BK2.out 6
    have zl := blk_lt BK2.out
    go_wp2_with fail
    refine bodyPost_ret (results_ctt rfl _ _ (w.heap.size + 1) 34 #[(.slice none 0 0), (.int .i64 0), (.int .i64 0), (.int .i64 0), (.int .i64 0), (.int .i64 0), (.slice none 0 0)] (0, 0) _ rfl (by (with_reducible repeat (first | refine blk_drewN ?_ _ | refine blk_drew ?_ | refine blk_alloc ?_ _)); refine blk_put (cs := #[(.slice none 0 0), (.int .i64 0), (.int .i64 0), (.int .i64 0), (.int .i64 0), (.int .i64 0), (.slice none 0 0)]) ?_ 6 _ rfl; (with_reducible repeat (first | refine blk_drewN ?_ _ | refine blk_drew ?_ | refine blk_alloc ?_ _)); refine blk_put (cs := #[(.slice none 0 0), (.int .i64 0), (.int .i64 0), (.int .i64 0), (.int .i64 0), (.int .i64 0), (.slice none 0 0)]) ?_ 5 _ rfl; (with_reducible repeat (first | refine blk_drewN ?_ _ | refine blk_drew ?_ | refine blk_alloc ?_ _)); refine blk_put (cs := #[(.slice none 0 0), (.int .i64 0), (.int .i64 0), (.int .i64 0), (.int .i64 0), (.int .i64 0), (.slice none 0 0)]) ?_ 4 _ rfl; (with_reducible repeat (first | refine blk_drewN ?_ _ | refine blk_drew ?_ | refine blk_alloc ?_ _)); refine blk_put (cs := #[(.slice none 0 0), (.int .i64 0), (.int .i64 0), (.int .i64 0), (.int .i64 0), (.int .i64 0), (.slice none 0 0)]) ?_ 3 _ rfl; (with_reducible repeat (first | refine blk_drewN ?_ _ | refine blk_drew ?_ | refine blk_alloc ?_ _)); refine blk_put (cs := #[(.slice none 0 0), (.int .i64 0), (.int .i64 0), (.int .i64 0), (.int .i64 0), (.int .i64 0), (.slice none 0 0)]) ?_ 2 _ rfl; (with_reducible repeat (first | refine blk_drewN ?_ _ | refine blk_drew ?_ | refine blk_alloc ?_ _)); refine blk_put (cs := #[(.slice none 0 0), (.int .i64 0), (.int .i64 0), (.int .i64 0), (.int .i64 0), (.int .i64 0), (.slice none 0 0)]) ?_ 1 _ rfl; (with_reducible repeat (first | refine blk_drewN ?_ _ | refine blk_drew ?_ | refine blk_alloc ?_ _)); refine blk_put (cs := #[(.slice none 0 0), (.int .i64 0), (.int .i64 0), (.int .i64 0), (.int .i64 0), (.int .i64 0), (.slice none 0 0)]) ?_ 0 _ rfl; (with_reducible repeat (first | refine blk_drewN ?_ _ | refine blk_drew ?_ | refine blk_alloc ?_ _)); exact BK2.out) Try.underlying34 rfl (by kernel_rfl)) rfl ?_
    exact ⟨_, _, _, rfl, Kd.S_nil _ _ _ _ _, Kd.R_nil _ _ _ _ _, Kd.R_nil _ _ _ _ _, by repeat (first | (with_reducible first | exact HB.out | refine below_set ?_ (Nat.le_succ _) | apply below_alloc | apply pw_below_drewN | apply below_drew1) | exact HB.out)⟩
  | true =>
    have h1 := HH.out
    rw [if_pos rfl] at h1
    obtain ⟨⟨m, o2, o3, o4, o5, o6, o7⟩, ho, h1⟩ := Option.bind_eq_some_iff.mp h1
    have ho' := ho
    unfold impl_Arena_own.f at ho'
    obtain ⟨q1, _, ho'⟩ := Option.bind_eq_some_iff.mp ho'
    obtain ⟨q2, _, ho'⟩ := Option.bind_eq_some_iff.mp ho'
    simp only [Option.some.injEq, Prod.mk.injEq] at ho'
    obtain ⟨_, e2, e3, e4, e5, e6, _⟩ := ho'
    subst e2 e3 e4 e5 e6
    have HO := Aside0.mk ho
    by_cases hok : (∀ q ∈ l1, q.f1 ≠ 0) ∧ l1.length ≤ 1048576
    · rw [if_pos hok] at h1
      clear HH ho
      have y0 : w1.cell? ⟨w.heap.size, 0, none⟩ = some (.slice A0_0 l0_0.length c0_0) := (blk_cell BK1.out 0).trans rfl
      have y1 : w1.cell? ⟨w.heap.size, 1, none⟩ = some (.int .i64 a0_1) := (blk_cell BK1.out 1).trans rfl
      have y2 : w1.cell? ⟨w.heap.size, 2, none⟩ = some (.int .i64 a0_2) := (blk_cell BK1.out 2).trans rfl
      have y3 : w1.cell? ⟨w.heap.size, 3, none⟩ = some (.int .i64 a0_3) := (blk_cell BK1.out 3).trans rfl
      have y4 : w1.cell? ⟨w.heap.size, 4, none⟩ = some (.int .i64 a0_4) := (blk_cell BK1.out 4).trans rfl
      have y5 : w1.cell? ⟨w.heap.size, 5, none⟩ = some (.int .i64 a0_5) := (blk_cell BK1.out 5).trans rfl
      have y6 : w1.cell? ⟨w.heap.size, 6, none⟩ = some (.slice A0_6 l0_6.length c0_6) := (blk_cell BK1.out 6).trans rfl
      have zl := blk_lt BK1.out
      go_wp2_with fail
      clear y0 y1 y2 y3 y4 y5 y6 zl
      refine (impl_Arena_own.calls k A0_0 c0_0 l0_0 a0_1 a0_2 a0_3 a0_4 a0_5 A0_6 c0_6 l0_6 m a0_1 a0_2 a0_3 a0_4 a0_5 o7 _ (Kd.C_below HR0.out HB.out) HC0.out (Kd.C_below HR6.out HB.out) HC6.out HO.out).mono ?_
      rintro e w2 ⟨v0, v6, rfl, hS, hR, hb⟩
      replace BK1 := Aside0.mk (blk_below BK1.out hb)
      replace BK2 := Aside0.mk (blk_below BK2.out hb)
      obtain ⟨A, c, rfl⟩ := Kd.S_slice hS
      obtain ⟨A7, c7, rfl⟩ := Kd.R_slice hR
      have hlow := below_size HB.out
      have HS := Aside0.mk (Kd.S_lower (Kd.S_mono hS (fun _ _ => trivial)) hlow)
      have HR := Aside0.mk (Kd.R_lower (Kd.R_mono hR (fun _ _ => trivial)) hlow)
      replace HB := Aside0.mk (below_step HB.out hb)
      have Z2 := Aside0.mk (below_size hb)
      clear hS hR hb hlow
      go_wp2_with fail
      have HA4 := Below.alloc (Below.refl w2.heap.size w2) (Nat.le_refl _) (.cells #[(.slice A m.length c), (.int .i64 a0_1), (.int .i64 a0_2), (.int .i64 a0_3), (.int .i64 a0_4), (.int .i64 a0_5), (.slice A7 o7.length c7)] 34)
      replace BK1 := Aside0.mk (blk_below BK1.out HA4)
      replace BK2 := Aside0.mk (blk_below BK2.out HA4)
      have BK4 := heap_alloc_new w2 (.cells #[(.slice A m.length c), (.int .i64 a0_1), (.int .i64 a0_2), (.int .i64 a0_3), (.int .i64 a0_4), (.int .i64 a0_5), (.slice A7 o7.length c7)] 34)
      replace HS := Aside0.mk (Kd.S_elderB HS.out w2.heap.size (Nat.le_refl _))
      replace HR := Aside0.mk (Kd.R_elderB HR.out w2.heap.size (Nat.le_refl _))
      replace HS := Aside0.mk (Kd.S_below HS.out HA4)
      replace HR := Aside0.mk (Kd.R_below HR.out HA4)
      replace HB := Aside0.mk (below_step HB.out HA4)
      have Z3 := Aside0.mk (show w2.heap.size < (w2.alloc (.cells #[(.slice A m.length c), (.int .i64 a0_1), (.int .i64 a0_2), (.int .i64 a0_3), (.int .i64 a0_4), (.int .i64 a0_5), (.slice A7 o7.length c7)] 34)).heap.size by simp)
      have hwg : w.heap.size ≤ w2.heap.size := by have := Z1.out; have := Z2.out; omega
      clear HA4
      have H1 := Aside0.mk h1
      clear h1
      refine (giveAll_calls w2.heap.size A m.length c a0_1 a0_2 a0_3 a0_4 a0_5 A7 o7.length c7 A1 c1 l1 w _ HB.out hwg BK4 HR1.out hok.1 hok.2).mono ?_
      generalize (w2.alloc (.cells #[(.slice A m.length c), (.int .i64 a0_1), (.int .i64 a0_2), (.int .i64 a0_3), (.int .i64 a0_4), (.int .i64 a0_5), (.slice A7 o7.length c7)] 34)) = w3 at HS HR BK1 BK2 BK4 HB Z3
      rintro e w4 ⟨v7, rfl, hR7, hb4, hg⟩
      generalize giveRun a0_1 a0_2 a0_3 l1 a0_5 [] = gr at hR7 hb4 H1 ⊢
      obtain ⟨gu, gws, gok⟩ := gr
      have h1 := H1.out
      simp only [] at h1 hR7 hb4
      replace HS := Aside0.mk (Kd.S_grown HS.out hg (fun k_ hk_ e_ => hk_.2 (Option.some.inj e_)))
      replace HR := Aside0.mk (Kd.R_grown HR.out hg (fun k_ hk_ e_ => hk_.2 (Option.some.inj e_)))
      have HR7 := Aside0.mk (Kd.R_lower hR7 (below_size HB.out))
      replace BK2 := Aside0.mk ((hg.block _ (blk_lt BK2.out) (fun e_ => by have := Option.some.inj e_; have := Z1.out; have := Z2.out; omega)).trans BK2.out)
      replace BK4 := Aside0.mk hb4
      replace HB := Aside0.mk (below_of_grown HB.out hg hwg (below_size HB.out))
      clear hR7 hb4 hg H1 BK1
      cases gok with
      | false =>
        rw [if_neg (by decide)] at h1
        simp only [Option.some.injEq, Prod.mk.injEq] at h1
        obtain ⟨rfl, rfl, rfl, rfl, rfl, rfl, rfl, rfl, rfl⟩ := h1
        have z0 : w4.cell? ⟨w.heap.size + 1, 0, none⟩ = some (.slice none 0 0) := (blk_cell BK2.out 0).trans rfl
        have z1 : w4.cell? ⟨w.heap.size + 1, 1, none⟩ = some (.int .i64 0) := (blk_cell BK2.out 1).trans rfl
        have z2 : w4.cell? ⟨w.heap.size + 1, 2, none⟩ = some (.int .i64 0) := (blk_cell BK2.out 2).trans rfl
        have z3 : w4.cell? ⟨w.heap.size + 1, 3, none⟩ = some (.int .i64 0) := (blk_cell BK2.out 3).trans rfl
        have z4 : w4.cell? ⟨w.heap.size + 1, 4, none⟩ = some (.int .i64 0) := (blk_cell BK2.out 4).trans rfl
        have z5 : w4.cell? ⟨w.heap.size + 1, 5, none⟩ = some (.int .i64 0) := (blk_cell BK2.out 5).trans rfl
        have z6 : w4.cell? ⟨w.heap.size + 1, 6, none⟩ = some (.slice none 0 0) := (blk_cell BK2.out 6).trans rfl
        have zf0 := blk_frozen BK2.out 0
        have zf1 := blk_frozen BK2.out 1
        have zf2 := blk_frozen BK2.out 2
        have zf3 := blk_frozen BK2.out 3
        have zf4 := blk_frozen BK2.out 4
        have zf5 := blk_frozen BK2.out 5
        have zf6 := blk_frozen BK2.out 6
        have zl := blk_lt BK2.out
        clear BK4 HS HR HR7
        go_wp2_with fail
        refine bodyPost_ret (results_ctt rfl _ _ (w.heap.size + 1) 34 #[(.slice none 0 0), (.int .i64 0), (.int .i64 0), (.int .i64 0), (.int .i64 0), (.int .i64 0), (.slice none 0 0)] (0, 0) _ rfl (by (with_reducible repeat (first | refine blk_drewN ?_ _ | refine blk_drew ?_ | refine blk_alloc ?_ _)); refine blk_put (cs := #[(.slice none 0 0), (.int .i64 0), (.int .i64 0), (.int .i64 0), (.int .i64 0), (.int .i64 0), (.slice none 0 0)]) ?_ 6 _ rfl; (with_reducible repeat (first | refine blk_drewN ?_ _ | refine blk_drew ?_ | refine blk_alloc ?_ _)); refine blk_put (cs := #[(.slice none 0 0), (.int .i64 0), (.int .i64 0), (.int .i64 0), (.int .i64 0), (.int .i64 0), (.slice none 0 0)]) ?_ 5 _ rfl; (with_reducible repeat (first | refine blk_drewN ?_ _ | refine blk_drew ?_ | refine blk_alloc ?_ _)); refine blk_put (cs := #[(.slice none 0 0), (.int .i64 0), (.int .i64 0), (.int .i64 0), (.int .i64 0), (.int .i64 0), (.slice none 0 0)]) ?_ 4 _ rfl; (with_reducible repeat (first | refine blk_drewN ?_ _ | refine blk_drew ?_ | refine blk_alloc ?_ _)); refine blk_put (cs := #[(.slice none 0 0), (.int .i64 0), (.int .i64 0), (.int .i64 0), (.int .i64 0), (.int .i64 0), (.slice none 0 0)]) ?_ 3 _ rfl; (with_reducible repeat (first | refine blk_drewN ?_ _ | refine blk_drew ?_ | refine blk_alloc ?_ _)); refine blk_put (cs := #[(.slice none 0 0), (.int .i64 0), (.int .i64 0), (.int .i64 0), (.int .i64 0), (.int .i64 0), (.slice none 0 0)]) ?_ 2 _ rfl; (with_reducible repeat (first | refine blk_drewN ?_ _ | refine blk_drew ?_ | refine blk_alloc ?_ _)); refine blk_put (cs := #[(.slice none 0 0), (.int .i64 0), (.int .i64 0), (.int .i64 0), (.int .i64 0), (.int .i64 0), (.slice none 0 0)]) ?_ 1 _ rfl; (with_reducible repeat (first | refine blk_drewN ?_ _ | refine blk_drew ?_ | refine blk_alloc ?_ _)); refine blk_put (cs := #[(.slice none 0 0), (.int .i64 0), (.int .i64 0), (.int .i64 0), (.int .i64 0), (.int .i64 0), (.slice none 0 0)]) ?_ 0 _ rfl; (with_reducible repeat (first | refine blk_drewN ?_ _ | refine blk_drew ?_ | refine blk_alloc ?_ _)); exact BK2.out) Try.underlying34 rfl (by kernel_rfl)) rfl ?_
        exact ⟨_, _, _, rfl, Kd.S_nil _ _ _ _ _, Kd.R_nil _ _ _ _ _, Kd.R_nil _ _ _ _ _, by repeat (first | (with_reducible first | exact HB.out | refine below_set ?_ (Nat.le_succ _) | apply below_alloc | apply pw_below_drewN | apply below_drew1) | exact HB.out)⟩
      | true =>
        rw [if_pos rfl] at h1
        simp only [Option.some.injEq, Prod.mk.injEq] at h1
        obtain ⟨rfl, rfl, rfl, rfl, rfl, rfl, rfl, rfl, rfl⟩ := h1
        have y0 : w4.cell? ⟨w2.heap.size, 0, none⟩ = some (.slice A m.length c) := (blk_cell BK4.out 0).trans rfl
        have y1 : w4.cell? ⟨w2.heap.size, 1, none⟩ = some (.int .i64 a0_1) := (blk_cell BK4.out 1).trans rfl
        have y2 : w4.cell? ⟨w2.heap.size, 2, none⟩ = some (.int .i64 a0_2) := (blk_cell BK4.out 2).trans rfl
        have y3 : w4.cell? ⟨w2.heap.size, 3, none⟩ = some (.int .i64 a0_3) := (blk_cell BK4.out 3).trans rfl
        have y4 : w4.cell? ⟨w2.heap.size, 4, none⟩ = some (.int .i64 a0_4) := (blk_cell BK4.out 4).trans rfl
        have y5 : w4.cell? ⟨w2.heap.size, 5, none⟩ = some (.int .i64 gu) := (blk_cell BK4.out 5).trans rfl
        have y6 : w4.cell? ⟨w2.heap.size, 6, none⟩ = some (.slice A7 o7.length c7) := (blk_cell BK4.out 6).trans rfl
        have z0 : w4.cell? ⟨w.heap.size + 1, 0, none⟩ = some (.slice none 0 0) := (blk_cell BK2.out 0).trans rfl
        have z1 : w4.cell? ⟨w.heap.size + 1, 1, none⟩ = some (.int .i64 0) := (blk_cell BK2.out 1).trans rfl
        have z2 : w4.cell? ⟨w.heap.size + 1, 2, none⟩ = some (.int .i64 0) := (blk_cell BK2.out 2).trans rfl
        have z3 : w4.cell? ⟨w.heap.size + 1, 3, none⟩ = some (.int .i64 0) := (blk_cell BK2.out 3).trans rfl
        have z4 : w4.cell? ⟨w.heap.size + 1, 4, none⟩ = some (.int .i64 0) := (blk_cell BK2.out 4).trans rfl
        have z5 : w4.cell? ⟨w.heap.size + 1, 5, none⟩ = some (.int .i64 0) := (blk_cell BK2.out 5).trans rfl
        have z6 : w4.cell? ⟨w.heap.size + 1, 6, none⟩ = some (.slice none 0 0) := (blk_cell BK2.out 6).trans rfl
        have zf0 := blk_frozen BK2.out 0
        have zf1 := blk_frozen BK2.out 1
        have zf2 := blk_frozen BK2.out 2
        have zf3 := blk_frozen BK2.out 3
        have zf4 := blk_frozen BK2.out 4
        have zf5 := blk_frozen BK2.out 5
        have zf6 := blk_frozen BK2.out 6
        have zl := blk_lt BK2.out
        have yl := blk_lt BK4.out
        have HS3 := Aside0.mk (Kd.S_types HS.out BK2.out (by decide))
        have HR3 := Aside0.mk (Kd.R_types HR.out BK2.out (by decide))
        have HW3 := Aside0.mk (Kd.R_types HR7.out BK2.out (by decide))
        go_wp2_with fail
        refine bodyPost_ret (results_ctt rfl _ _ (w.heap.size + 1) 34 #[(.slice A m.length c), (.int .i64 a0_1), (.int .i64 a0_2), (.int .i64 a0_3), (.int .i64 a0_4), (.int .i64 gu), (.slice A7 o7.length c7)] (0, 0) _ rfl (by (with_reducible repeat (first | refine blk_drewN ?_ _ | refine blk_drew ?_ | refine blk_alloc ?_ _)); refine blk_put (cs := #[(.slice A m.length c), (.int .i64 a0_1), (.int .i64 a0_2), (.int .i64 a0_3), (.int .i64 a0_4), (.int .i64 gu), (.slice none 0 0)]) ?_ 6 _ rfl; (with_reducible repeat (first | refine blk_drewN ?_ _ | refine blk_drew ?_ | refine blk_alloc ?_ _)); refine blk_put (cs := #[(.slice A m.length c), (.int .i64 a0_1), (.int .i64 a0_2), (.int .i64 a0_3), (.int .i64 a0_4), (.int .i64 0), (.slice none 0 0)]) ?_ 5 _ rfl; (with_reducible repeat (first | refine blk_drewN ?_ _ | refine blk_drew ?_ | refine blk_alloc ?_ _)); refine blk_put (cs := #[(.slice A m.length c), (.int .i64 a0_1), (.int .i64 a0_2), (.int .i64 a0_3), (.int .i64 0), (.int .i64 0), (.slice none 0 0)]) ?_ 4 _ rfl; (with_reducible repeat (first | refine blk_drewN ?_ _ | refine blk_drew ?_ | refine blk_alloc ?_ _)); refine blk_put (cs := #[(.slice A m.length c), (.int .i64 a0_1), (.int .i64 a0_2), (.int .i64 0), (.int .i64 0), (.int .i64 0), (.slice none 0 0)]) ?_ 3 _ rfl; (with_reducible repeat (first | refine blk_drewN ?_ _ | refine blk_drew ?_ | refine blk_alloc ?_ _)); refine blk_put (cs := #[(.slice A m.length c), (.int .i64 a0_1), (.int .i64 0), (.int .i64 0), (.int .i64 0), (.int .i64 0), (.slice none 0 0)]) ?_ 2 _ rfl; (with_reducible repeat (first | refine blk_drewN ?_ _ | refine blk_drew ?_ | refine blk_alloc ?_ _)); refine blk_put (cs := #[(.slice A m.length c), (.int .i64 0), (.int .i64 0), (.int .i64 0), (.int .i64 0), (.int .i64 0), (.slice none 0 0)]) ?_ 1 _ rfl; (with_reducible repeat (first | refine blk_drewN ?_ _ | refine blk_drew ?_ | refine blk_alloc ?_ _)); refine blk_put (cs := #[(.slice none 0 0), (.int .i64 0), (.int .i64 0), (.int .i64 0), (.int .i64 0), (.int .i64 0), (.slice none 0 0)]) ?_ 0 _ rfl; (with_reducible repeat (first | refine blk_drewN ?_ _ | refine blk_drew ?_ | refine blk_alloc ?_ _)); exact BK2.out) Try.underlying34 rfl (by kernel_rfl)) rfl ?_
        exact ⟨_, _, _, rfl, Kd.S_mono (ok := fun k_ => (True ∧ k_ ≠ w2.heap.size) ∧ k_ ≠ w.heap.size + 1) (by refine Kd.S_far (p := ⟨w.heap.size + 1, 6, none⟩) ?_ (fun k_ hk_ => hk_.2) _; refine Kd.S_far (p := ⟨w.heap.size + 1, 5, none⟩) ?_ (fun k_ hk_ => hk_.2) _; refine Kd.S_far (p := ⟨w.heap.size + 1, 4, none⟩) ?_ (fun k_ hk_ => hk_.2) _; refine Kd.S_far (p := ⟨w.heap.size + 1, 3, none⟩) ?_ (fun k_ hk_ => hk_.2) _; refine Kd.S_far (p := ⟨w.heap.size + 1, 2, none⟩) ?_ (fun k_ hk_ => hk_.2) _; refine Kd.S_far (p := ⟨w.heap.size + 1, 1, none⟩) ?_ (fun k_ hk_ => hk_.2) _; refine Kd.S_far (p := ⟨w.heap.size + 1, 0, none⟩) ?_ (fun k_ hk_ => hk_.2) _; exact HS3.out) (fun _ _ => trivial), Kd.R_mono (ok := fun k_ => (True ∧ k_ ≠ w2.heap.size) ∧ k_ ≠ w.heap.size + 1) (by refine Kd.R_far (p := ⟨w.heap.size + 1, 6, none⟩) ?_ (fun k_ hk_ => hk_.2) _; refine Kd.R_far (p := ⟨w.heap.size + 1, 5, none⟩) ?_ (fun k_ hk_ => hk_.2) _; refine Kd.R_far (p := ⟨w.heap.size + 1, 4, none⟩) ?_ (fun k_ hk_ => hk_.2) _; refine Kd.R_far (p := ⟨w.heap.size + 1, 3, none⟩) ?_ (fun k_ hk_ => hk_.2) _; refine Kd.R_far (p := ⟨w.heap.size + 1, 2, none⟩) ?_ (fun k_ hk_ => hk_.2) _; refine Kd.R_far (p := ⟨w.heap.size + 1, 1, none⟩) ?_ (fun k_ hk_ => hk_.2) _; refine Kd.R_far (p := ⟨w.heap.size + 1, 0, none⟩) ?_ (fun k_ hk_ => hk_.2) _; exact HR3.out) (fun _ _ => trivial), Kd.R_mono (ok := fun k_ => True ∧ k_ ≠ w.heap.size + 1) (by refine Kd.R_far (p := ⟨w.heap.size + 1, 6, none⟩) ?_ (fun k_ hk_ => hk_.2) _; refine Kd.R_far (p := ⟨w.heap.size + 1, 5, none⟩) ?_ (fun k_ hk_ => hk_.2) _; refine Kd.R_far (p := ⟨w.heap.size + 1, 4, none⟩) ?_ (fun k_ hk_ => hk_.2) _; refine Kd.R_far (p := ⟨w.heap.size + 1, 3, none⟩) ?_ (fun k_ hk_ => hk_.2) _; refine Kd.R_far (p := ⟨w.heap.size + 1, 2, none⟩) ?_ (fun k_ hk_ => hk_.2) _; refine Kd.R_far (p := ⟨w.heap.size + 1, 1, none⟩) ?_ (fun k_ hk_ => hk_.2) _; refine Kd.R_far (p := ⟨w.heap.size + 1, 0, none⟩) ?_ (fun k_ hk_ => hk_.2) _; exact HW3.out) (fun _ _ => trivial), by repeat (first | (with_reducible first | exact HB.out | refine below_set ?_ (Nat.le_succ _) | apply below_alloc | apply pw_below_drewN | apply below_drew1) | exact HB.out)⟩
    · rw [if_neg hok] at h1
      exact absurd h1 (by simp)
end Go.Proofs.Ythlppjdlljofdaa.P
namespace Go.Proofs.Ythlppjdlljofdaa.P
open Go.RowKit Go.Proofs.YthlppjdlljofdaaW.PrintWords Go.Proofs.YthlppjdlljofdaaW.PrintLast Go.Proofs.YthlppjdlljofdaaW.PrintMore
attribute [local go_sem] max2_int min2_int max_two min_two max_three min_three max_four min_four   -- for this text's walks alone
set_option linter.unusedVariables false
set_option linter.unusedSimpArgs false

def impl_LostBytes.l0 : Nat → Int → List (S32) → Int → Int → Option (Int × Bool)
  | 0, _, _, _, _ => none
  | k + 1, x9, x26, x27, x28 => if x28 < x27 then (if 0 ≤ x28 then (if x28 < (x26.length : Int) then (impl_LostBytes.l0 k (wrap64 (x9 - ((rd_T32 x26 x28).f2))) x26 x27 (wrap64 (x28 + 1))) else (none)) else (none)) else (some (x9, true))

def impl_LostBytes.f (k : Nat) (l0_0 : List (List Int)) (a0_1 : Int) (a0_2 : Int) (a0_3 : Int) (a0_4 : Int) (a0_5 : Int) (l0_6 : List Int) (l1 : List (S128)) : Option (Int × Bool) := (impl_GiveAll.f k l0_0 a0_1 a0_2 a0_3 a0_4 a0_5 l0_6 l1).bind fun bt1300 => (if bt1300.2.2.2.2.2.2.2.2 = true then (impl_LostBytes.l0 k (wrap64 (bt1300.2.2.2.2.2.1 - a0_5)) bt1300.2.2.2.2.2.2.2.1 (bt1300.2.2.2.2.2.2.2.1.length : Int) 0) else (some (0, false)))

set_option maxHeartbeats 8000000 in
set_option maxRecDepth 100000 in
theorem impl_LostBytes.calls (k : Nat) (A0_0 : Option Addr) (c0_0 : Nat) (l0_0 : List (List Int)) (a0_1 : Int) (a0_2 : Int) (a0_3 : Int) (a0_4 : Int) (a0_5 : Int) (A0_6 : Option Addr) (c0_6 : Nat) (l0_6 : List Int) (A1 : Option Addr) (c1 : Nat) (l1 : List (S128)) (r1 : Int) (r2 : Bool) (w : World) (hr0_0 : Kd.C (Kd.slice 5 (Kd.int .u8)) w A0_0 l0_0.length l0_0) (hc0_0 : l0_0.length ≤ c0_0) (hr0_6 : Kd.C (Kd.int .i64) w A0_6 l0_6.length l0_6) (hc0_6 : l0_6.length ≤ c0_6) (hr1 : Kd.C k128 w A1 l1.length l1) (hc1 : l1.length ≤ c1) (h : impl_LostBytes.f k l0_0 a0_1 a0_2 a0_3 a0_4 a0_5 l0_6 l1 = some (r1, r2)) :
    Calls Try.prog 66 #[.agg #[.slice A0_0 l0_0.length c0_0, .int .i64 a0_1, .int .i64 a0_2, .int .i64 a0_3, .int .i64 a0_4, .int .i64 a0_5, .slice A0_6 l0_6.length c0_6], .slice A1 l1.length c1] w fun e w' => e = .returned (.tuple #[.int .i64 r1, .bool r2]) ∧ Below w.heap.size w w' := by
  have hu34 := Try.underlying34
  have hu32 := Try.underlying32
  have HR0_0 := Aside0.mk hr0_0
  have HC0_0 := Aside0.mk hc0_0
  clear hr0_0 hc0_0
  have HR0_6 := Aside0.mk hr0_6
  have HC0_6 := Aside0.mk hc0_6
  clear hr0_6 hc0_6
  have HR1 := Aside0.mk hr1
  have HC1 := Aside0.mk hc1
  clear hr1 hc1
  have HB := Aside0.mk (Below.refl w.heap.size w)
  have H : ((impl_GiveAll.f k l0_0 a0_1 a0_2 a0_3 a0_4 a0_5 l0_6 l1).bind fun bt1300 => (if bt1300.2.2.2.2.2.2.2.2 = true then (impl_LostBytes.l0 k (wrap64 (bt1300.2.2.2.2.2.1 - a0_5)) bt1300.2.2.2.2.2.2.2.1 (bt1300.2.2.2.2.2.2.2.1.length : Int) 0) else (some (0, false)))) = some (r1, r2) := h
  clear h
  replace H := Option.bind_eq_some_iff.mp H
  obtain ⟨⟨t1300, t1303, t1304, t1305, t1306, t1307, t1308, t1311, t1314⟩, A30, H⟩ := H
  replace H : (if t1314 = true then (impl_LostBytes.l0 k (wrap64 (t1307 - a0_5)) t1311 (t1311.length : Int) 0) else (some (0, false))) = some (r1, r2) := H
  have A3 := Aside0.mk A30
  clear A30
  by_cases c4 : t1314 = true
  · subst c4
    have H1 : (impl_LostBytes.l0 k (wrap64 (t1307 - a0_5)) t1311 (t1311.length : Int) 0) = some (r1, r2) := by rw [if_pos rfl] at H; exact H
    clear H
    have H := H1
    clear H1
    have H' := Aside0.mk H
    clear H
    go_enter Try.func66, Try.ntmps66
    go_wp2_with (first | ((with_reducible refine gate_dst (N := 2) rfl ?_); refine box_event ?hg (N := 2) ?hd (cs := #[.slice A0_0 l0_0.length c0_0, .int .i64 a0_1, .int .i64 a0_2, .int .i64 a0_3, .int .i64 a0_4, .int .i64 a0_5, .slice A0_6 l0_6.length c0_6]) (t := 34) ?hr ?_; (case hd => rfl); (case hg => rfl); (case hr => first | (go_simp; done) | (go_simp; rfl)); intro gb1299 hg w5 hbox hb; have n0_ := Aside0.mk (below_step (by repeat (first | (with_reducible first | exact HB.out | apply below_alloc | apply pw_below_drewN | apply below_drew1) | exact HB.out)) hb); have n1_ := Aside0.mk (hbox); have n2_ := Aside0.mk ((by rw [hg]; exact (below_size (by repeat (first | (with_reducible first | exact HB.out | apply below_alloc | apply pw_below_drewN | apply below_drew1) | exact HB.out))) : w.heap.size ≤ gb1299)); have n3_ := Aside0.mk ((by rw [hg]; exact (below_size (by repeat (first | (with_reducible first | exact HB.out | apply below_alloc | apply pw_below_drewN | apply below_drew1) | exact HB.out))) : w.heap.size ≤ gb1299)); clear HB; have HB := n0_; have BK1299 := n1_; have GW1299 := n2_; have GE1299 := n3_; clear n0_ n1_ n2_ n3_; clear hb hbox hg; have hcz6_0 : w5.cell? ⟨gb1299, 0, none⟩ = some (.slice A0_0 l0_0.length c0_0) := (blk_cell BK1299.out 0).trans rfl; have hcz6_1 : w5.cell? ⟨gb1299, 1, none⟩ = some (.int .i64 a0_1) := (blk_cell BK1299.out 1).trans rfl; have hcz6_2 : w5.cell? ⟨gb1299, 2, none⟩ = some (.int .i64 a0_2) := (blk_cell BK1299.out 2).trans rfl; have hcz6_3 : w5.cell? ⟨gb1299, 3, none⟩ = some (.int .i64 a0_3) := (blk_cell BK1299.out 3).trans rfl; have hcz6_4 : w5.cell? ⟨gb1299, 4, none⟩ = some (.int .i64 a0_4) := (blk_cell BK1299.out 4).trans rfl; have hcz6_5 : w5.cell? ⟨gb1299, 5, none⟩ = some (.int .i64 a0_5) := (blk_cell BK1299.out 5).trans rfl; have hcz6_6 : w5.cell? ⟨gb1299, 6, none⟩ = some (.slice A0_6 l0_6.length c0_6) := (blk_cell BK1299.out 6).trans rfl; have hfz6_0 := blk_frozen BK1299.out 0; have hfz6_1 := blk_frozen BK1299.out 1; have hfz6_2 := blk_frozen BK1299.out 2; have hfz6_3 := blk_frozen BK1299.out 3; have hfz6_4 := blk_frozen BK1299.out 4; have hfz6_5 := blk_frozen BK1299.out 5; have hfz6_6 := blk_frozen BK1299.out 6) | ((with_reducible refine gate_callee (f := 200) rfl ?_); refine goesL_ (some 15) rfl rfl Try.func200 (by kernel_rfl) rfl #[.agg #[.slice A0_0 l0_0.length c0_0, .int .i64 a0_1, .int .i64 a0_2, .int .i64 a0_3, .int .i64 a0_4, .int .i64 a0_5, .slice A0_6 l0_6.length c0_6], .slice A1 l1.length c1] rfl (by (try simp only [List.map_toArray, List.map_cons, List.map_nil]); first | done | rfl | (simp only [List.length_drop, List.length_take]; rfl)) ?_; (with_reducible refine (impl_GiveAll.calls k _ _ l0_0 a0_1 a0_2 a0_3 a0_4 a0_5 _ _ l0_6 _ _ l1 t1300 t1303 t1304 t1305 t1306 t1307 t1308 t1311 true _ ?side1 ?side2 ?side3 ?side4 ?side5 ?side6 A3.out).mono ?_); (case side1 => repeat (first | exact (Kd.C_below HR0_0.out HB.out) | (with_reducible refine Kd.C_alloc ?_ _) | (with_reducible refine Kd.C_drewN ?_ _) | (with_reducible refine Kd.C_drew ?_))); (case side2 => exact HC0_0.out); (case side3 => repeat (first | exact (Kd.C_below HR0_6.out HB.out) | (with_reducible refine Kd.C_alloc ?_ _) | (with_reducible refine Kd.C_drewN ?_ _) | (with_reducible refine Kd.C_drew ?_))); (case side4 => exact HC0_6.out); (case side5 => repeat (first | exact (Kd.C_below HR1.out HB.out) | (with_reducible refine Kd.C_alloc ?_ _) | (with_reducible refine Kd.C_drewN ?_ _) | (with_reducible refine Kd.C_drew ?_))); (case side6 => exact HC1.out); rintro e w7 ⟨v1301, v1309, v1312, rfl, ho0, ho1, ho2, hb⟩; refine ⟨_, rfl, ?_⟩; have n0_ := Aside0.mk (Kd.S_lower ho0 (below_size (by repeat (first | (with_reducible first | exact HB.out | apply below_alloc | apply pw_below_drewN | apply below_drew1 | refine below_set ?_ GE1299.out) | exact HB.out)))); have n1_ := Aside0.mk (Kd.R_lower ho1 (below_size (by repeat (first | (with_reducible first | exact HB.out | apply below_alloc | apply pw_below_drewN | apply below_drew1 | refine below_set ?_ GE1299.out) | exact HB.out)))); have n2_ := Aside0.mk (Kd.R_lower ho2 (below_size (by repeat (first | (with_reducible first | exact HB.out | apply below_alloc | apply pw_below_drewN | apply below_drew1 | refine below_set ?_ GE1299.out) | exact HB.out)))); have n3_ := Aside0.mk (blk_below (g := gb1299) (o := .cells #[.slice A0_0 l0_0.length c0_0, .int .i64 a0_1, .int .i64 a0_2, .int .i64 a0_3, .int .i64 a0_4, .int .i64 a0_5, .slice A0_6 l0_6.length c0_6] 34 (0, 0)) (by (with_reducible repeat (first | refine blk_drewN ?_ _ | refine blk_drew ?_ | refine blk_alloc ?_ _)); exact BK1299.out) hb); have n4_ := Aside0.mk (below_step (by repeat (first | (with_reducible first | exact HB.out | apply below_alloc | apply pw_below_drewN | apply below_drew1 | refine below_set ?_ GE1299.out) | exact HB.out)) hb); clear BK1299; clear HB; have HO1302 := n0_; have HO1310 := n1_; have HO1313 := n2_; have BK1299 := n3_; have HB := n4_; clear n0_ n1_ n2_ n3_ n4_; (try clear hb); (try clear hb2); (try clear hk); (try clear hi); (try clear ho0); (try clear ho1); (try clear ho2)) | ((with_reducible refine gate_dst (N := 6) rfl ?_); refine box_event ?hg (N := 6) ?hd (cs := #[.slice none 0 0, .int .i64 0, .int .i64 0, .int .i64 0, .int .i64 0, .int .i64 0, .slice none 0 0]) (t := 34) ?hr ?_; (case hd => rfl); (case hg => rfl); (case hr => first | (go_simp; done) | (go_simp; rfl)); intro gb1315 hg w8 hbox hb; have n0_ := Aside0.mk (Kd.S_below (by (with_reducible repeat (first | apply Kd.S_alloc | apply Kd.S_drewN | apply Kd.S_drew)); exact HO1302.out) hb); have n1_ := Aside0.mk (Kd.R_below (by (with_reducible repeat (first | apply Kd.R_alloc | apply Kd.R_drewN | apply Kd.R_drew)); exact HO1310.out) hb); have n2_ := Aside0.mk (Kd.R_below (by (with_reducible repeat (first | apply Kd.R_alloc | apply Kd.R_drewN | apply Kd.R_drew)); exact HO1313.out) hb); have n3_ := Aside0.mk (blk_below (g := gb1299) (o := .cells #[.slice A0_0 l0_0.length c0_0, .int .i64 a0_1, .int .i64 a0_2, .int .i64 a0_3, .int .i64 a0_4, .int .i64 a0_5, .slice A0_6 l0_6.length c0_6] 34 (0, 0)) (by (with_reducible repeat (first | refine blk_drewN ?_ _ | refine blk_drew ?_ | refine blk_alloc ?_ _)); exact BK1299.out) hb); have n4_ := Aside0.mk (below_step (by repeat (first | (with_reducible first | exact HB.out | apply below_alloc | apply pw_below_drewN | apply below_drew1 | refine below_set ?_ GE1299.out) | exact HB.out)) hb); have n5_ := Aside0.mk (hbox); have n6_ := Aside0.mk ((by rw [hg]; exact (below_size (by repeat (first | (with_reducible first | exact HB.out | apply below_alloc | apply pw_below_drewN | apply below_drew1 | refine below_set ?_ GE1299.out) | exact HB.out))) : w.heap.size ≤ gb1315)); have n7_ := Aside0.mk ((by rw [hg]; exact (below_size (by repeat (first | (with_reducible first | exact HB.out | apply below_alloc | apply pw_below_drewN | apply below_drew1 | refine below_set ?_ GE1299.out) | exact HB.out))) : w.heap.size ≤ gb1315)); have n8_ := Aside0.mk ((by rw [hg]; exact Nat.ne_of_lt (blk_lt (g := gb1299) (o := .cells #[.slice A0_0 l0_0.length c0_0, .int .i64 a0_1, .int .i64 a0_2, .int .i64 a0_3, .int .i64 a0_4, .int .i64 a0_5, .slice A0_6 l0_6.length c0_6] 34 (0, 0)) (by (with_reducible repeat (first | refine blk_drewN ?_ _ | refine blk_drew ?_ | refine blk_alloc ?_ _)); exact BK1299.out)) : gb1299 ≠ gb1315)); have n9_ := Aside0.mk ((by rw [hg]; exact Nat.ne_of_gt (blk_lt (g := gb1299) (o := .cells #[.slice A0_0 l0_0.length c0_0, .int .i64 a0_1, .int .i64 a0_2, .int .i64 a0_3, .int .i64 a0_4, .int .i64 a0_5, .slice A0_6 l0_6.length c0_6] 34 (0, 0)) (by (with_reducible repeat (first | refine blk_drewN ?_ _ | refine blk_drew ?_ | refine blk_alloc ?_ _)); exact BK1299.out)) : gb1315 ≠ gb1299)); clear HO1302; clear HO1310; clear HO1313; clear BK1299; clear HB; have HO1302 := n0_; have HO1310 := n1_; have HO1313 := n2_; have BK1299 := n3_; have HB := n4_; have BK1315 := n5_; have GW1315 := n6_; have GE1315 := n7_; have NB1299_1315 := n8_; have NB1315_1299 := n9_; clear n0_ n1_ n2_ n3_ n4_ n5_ n6_ n7_ n8_ n9_; clear hb hbox hg; obtain ⟨Ao9, co9, eo9⟩ := Kd.S_slice HO1302.out; subst eo9; have hnb10 := NB1315_1299.out; have hnc10 := NB1299_1315.out; have hcz11_0 : w8.cell? ⟨gb1315, 0, none⟩ = some (.slice none 0 0) := (blk_cell BK1315.out 0).trans rfl; have hcz11_1 : w8.cell? ⟨gb1315, 1, none⟩ = some (.int .i64 0) := (blk_cell BK1315.out 1).trans rfl; have hcz11_2 : w8.cell? ⟨gb1315, 2, none⟩ = some (.int .i64 0) := (blk_cell BK1315.out 2).trans rfl; have hcz11_3 : w8.cell? ⟨gb1315, 3, none⟩ = some (.int .i64 0) := (blk_cell BK1315.out 3).trans rfl; have hcz11_4 : w8.cell? ⟨gb1315, 4, none⟩ = some (.int .i64 0) := (blk_cell BK1315.out 4).trans rfl; have hcz11_5 : w8.cell? ⟨gb1315, 5, none⟩ = some (.int .i64 0) := (blk_cell BK1315.out 5).trans rfl; have hcz11_6 : w8.cell? ⟨gb1315, 6, none⟩ = some (.slice none 0 0) := (blk_cell BK1315.out 6).trans rfl; have hfz11_0 := blk_frozen BK1315.out 0; have hfz11_1 := blk_frozen BK1315.out 1; have hfz11_2 := blk_frozen BK1315.out 2; have hfz11_3 := blk_frozen BK1315.out 3; have hfz11_4 := blk_frozen BK1315.out 4; have hfz11_5 := blk_frozen BK1315.out 5; have hfz11_6 := blk_frozen BK1315.out 6; obtain ⟨Ao12, co12, eo12⟩ := Kd.R_slice HO1310.out; subst eo12; have hcz13_0 : w8.cell? ⟨gb1299, 0, none⟩ = some (.slice A0_0 l0_0.length c0_0) := (blk_cell BK1299.out 0).trans rfl; have hcz13_1 : w8.cell? ⟨gb1299, 1, none⟩ = some (.int .i64 a0_1) := (blk_cell BK1299.out 1).trans rfl; have hcz13_2 : w8.cell? ⟨gb1299, 2, none⟩ = some (.int .i64 a0_2) := (blk_cell BK1299.out 2).trans rfl; have hcz13_3 : w8.cell? ⟨gb1299, 3, none⟩ = some (.int .i64 a0_3) := (blk_cell BK1299.out 3).trans rfl; have hcz13_4 : w8.cell? ⟨gb1299, 4, none⟩ = some (.int .i64 a0_4) := (blk_cell BK1299.out 4).trans rfl; have hcz13_5 : w8.cell? ⟨gb1299, 5, none⟩ = some (.int .i64 a0_5) := (blk_cell BK1299.out 5).trans rfl; have hcz13_6 : w8.cell? ⟨gb1299, 6, none⟩ = some (.slice A0_6 l0_6.length c0_6) := (blk_cell BK1299.out 6).trans rfl; have hfz13_0 := blk_frozen BK1299.out 0; have hfz13_1 := blk_frozen BK1299.out 1; have hfz13_2 := blk_frozen BK1299.out 2; have hfz13_3 := blk_frozen BK1299.out 3; have hfz13_4 := blk_frozen BK1299.out 4; have hfz13_5 := blk_frozen BK1299.out 5; have hfz13_6 := blk_frozen BK1299.out 6; obtain ⟨Ao14, co14, eo14⟩ := Kd.R_slice HO1313.out; subst eo14))
    go_loopg [9, 28] k (fun kq v9 v28 w' => ∃ (x9_1 : Int) (x28_1 : Int), v9 = .int .i64 x9_1 ∧ v28 = .int .i64 x28_1 ∧ Aside0 (impl_LostBytes.l0 kq x9_1 t1311 (t1311.length : Int) x28_1 = some (r1, r2)) ∧ Aside0 (kq ≤ k) ∧ Aside0 (Kd.R k32 32 w' w.heap.size (fun _ => True) (.slice Ao14 t1311.length co14) t1311) ∧ Aside0 (Kd.S (Kd.slice 5 (Kd.int .u8)) 62 w' w.heap.size (fun _ => True) (.slice Ao9 t1300.length co9) t1300) ∧ Aside0 (Kd.R (Kd.int .i64) 3 w' w.heap.size (fun _ => True) (.slice Ao12 t1308.length co12) t1308) ∧ Aside0 (w'.heap[gb1299]? = some (.cells #[(.slice A0_0 l0_0.length c0_0), .int .i64 a0_1, .int .i64 a0_2, .int .i64 a0_3, .int .i64 a0_4, .int .i64 a0_5, (.slice A0_6 l0_6.length c0_6)] 34 (0, 0))) ∧ Aside0 (w'.heap[gb1315]? = some (.cells #[(.slice Ao9 t1300.length co9), .int .i64 t1303, .int .i64 t1304, .int .i64 t1305, .int .i64 t1306, .int .i64 t1307, (.slice Ao12 t1308.length co12)] 34 (0, 0))) ∧ Aside0 (Below w.heap.size w w'))
    case atStart => exact ⟨(wrap64 (t1307 - a0_5)), (0), (by first | rfl | (simp; done) | (simp [*]; done)), (by first | rfl | (simp; done) | (simp [*]; done)), H', ⟨Nat.le_refl _⟩, ⟨by (with_reducible repeat (first | apply Kd.R_alloc | apply Kd.R_drewN | apply Kd.R_drew)); exact Kd.R_mono (Kd.R_far (p := ⟨gb1315, 6, none⟩) (Kd.R_far (p := ⟨gb1315, 5, none⟩) (Kd.R_far (p := ⟨gb1315, 4, none⟩) (Kd.R_far (p := ⟨gb1315, 3, none⟩) (Kd.R_far (p := ⟨gb1315, 2, none⟩) (Kd.R_far (p := ⟨gb1315, 1, none⟩) (Kd.R_far (p := ⟨gb1315, 0, none⟩) (Kd.R_types HO1313.out BK1315.out (by decide)) (fun _ hk => hk.2) (.slice Ao9 t1300.length co9)) (fun _ hk => hk.2) (.int .i64 t1303)) (fun _ hk => hk.2) (.int .i64 t1304)) (fun _ hk => hk.2) (.int .i64 t1305)) (fun _ hk => hk.2) (.int .i64 t1306)) (fun _ hk => hk.2) (.int .i64 t1307)) (fun _ hk => hk.2) (.slice Ao12 t1308.length co12)) (fun _ hk => trivial)⟩, ⟨by (with_reducible repeat (first | apply Kd.S_alloc | apply Kd.S_drewN | apply Kd.S_drew)); exact Kd.S_mono (Kd.S_far (p := ⟨gb1315, 6, none⟩) (Kd.S_far (p := ⟨gb1315, 5, none⟩) (Kd.S_far (p := ⟨gb1315, 4, none⟩) (Kd.S_far (p := ⟨gb1315, 3, none⟩) (Kd.S_far (p := ⟨gb1315, 2, none⟩) (Kd.S_far (p := ⟨gb1315, 1, none⟩) (Kd.S_far (p := ⟨gb1315, 0, none⟩) (Kd.S_types HO1302.out BK1315.out (by decide)) (fun _ hk => hk.2) (.slice Ao9 t1300.length co9)) (fun _ hk => hk.2) (.int .i64 t1303)) (fun _ hk => hk.2) (.int .i64 t1304)) (fun _ hk => hk.2) (.int .i64 t1305)) (fun _ hk => hk.2) (.int .i64 t1306)) (fun _ hk => hk.2) (.int .i64 t1307)) (fun _ hk => hk.2) (.slice Ao12 t1308.length co12)) (fun _ hk => trivial)⟩, ⟨by (with_reducible repeat (first | apply Kd.R_alloc | apply Kd.R_drewN | apply Kd.R_drew)); exact Kd.R_mono (Kd.R_far (p := ⟨gb1315, 6, none⟩) (Kd.R_far (p := ⟨gb1315, 5, none⟩) (Kd.R_far (p := ⟨gb1315, 4, none⟩) (Kd.R_far (p := ⟨gb1315, 3, none⟩) (Kd.R_far (p := ⟨gb1315, 2, none⟩) (Kd.R_far (p := ⟨gb1315, 1, none⟩) (Kd.R_far (p := ⟨gb1315, 0, none⟩) (Kd.R_types HO1310.out BK1315.out (by decide)) (fun _ hk => hk.2) (.slice Ao9 t1300.length co9)) (fun _ hk => hk.2) (.int .i64 t1303)) (fun _ hk => hk.2) (.int .i64 t1304)) (fun _ hk => hk.2) (.int .i64 t1305)) (fun _ hk => hk.2) (.int .i64 t1306)) (fun _ hk => hk.2) (.int .i64 t1307)) (fun _ hk => hk.2) (.slice Ao12 t1308.length co12)) (fun _ hk => trivial)⟩, ⟨by (with_reducible repeat (first | refine blk_drewN ?_ _ | refine blk_drew ?_ | refine blk_alloc ?_ _)); refine blk_far ?_ NB1299_1315.out _; (with_reducible repeat (first | refine blk_drewN ?_ _ | refine blk_drew ?_ | refine blk_alloc ?_ _)); refine blk_far ?_ NB1299_1315.out _; (with_reducible repeat (first | refine blk_drewN ?_ _ | refine blk_drew ?_ | refine blk_alloc ?_ _)); refine blk_far ?_ NB1299_1315.out _; (with_reducible repeat (first | refine blk_drewN ?_ _ | refine blk_drew ?_ | refine blk_alloc ?_ _)); refine blk_far ?_ NB1299_1315.out _; (with_reducible repeat (first | refine blk_drewN ?_ _ | refine blk_drew ?_ | refine blk_alloc ?_ _)); refine blk_far ?_ NB1299_1315.out _; (with_reducible repeat (first | refine blk_drewN ?_ _ | refine blk_drew ?_ | refine blk_alloc ?_ _)); refine blk_far ?_ NB1299_1315.out _; (with_reducible repeat (first | refine blk_drewN ?_ _ | refine blk_drew ?_ | refine blk_alloc ?_ _)); refine blk_far ?_ NB1299_1315.out _; (with_reducible repeat (first | refine blk_drewN ?_ _ | refine blk_drew ?_ | refine blk_alloc ?_ _)); exact BK1299.out⟩, ⟨by (with_reducible repeat (first | refine blk_drewN ?_ _ | refine blk_drew ?_ | refine blk_alloc ?_ _)); refine blk_put (cs := #[.slice Ao9 t1300.length co9, .int .i64 t1303, .int .i64 t1304, .int .i64 t1305, .int .i64 t1306, .int .i64 t1307, .slice none 0 0]) ?_ 6 _ rfl; (with_reducible repeat (first | refine blk_drewN ?_ _ | refine blk_drew ?_ | refine blk_alloc ?_ _)); refine blk_put (cs := #[.slice Ao9 t1300.length co9, .int .i64 t1303, .int .i64 t1304, .int .i64 t1305, .int .i64 t1306, .int .i64 0, .slice none 0 0]) ?_ 5 _ rfl; (with_reducible repeat (first | refine blk_drewN ?_ _ | refine blk_drew ?_ | refine blk_alloc ?_ _)); refine blk_put (cs := #[.slice Ao9 t1300.length co9, .int .i64 t1303, .int .i64 t1304, .int .i64 t1305, .int .i64 0, .int .i64 0, .slice none 0 0]) ?_ 4 _ rfl; (with_reducible repeat (first | refine blk_drewN ?_ _ | refine blk_drew ?_ | refine blk_alloc ?_ _)); refine blk_put (cs := #[.slice Ao9 t1300.length co9, .int .i64 t1303, .int .i64 t1304, .int .i64 0, .int .i64 0, .int .i64 0, .slice none 0 0]) ?_ 3 _ rfl; (with_reducible repeat (first | refine blk_drewN ?_ _ | refine blk_drew ?_ | refine blk_alloc ?_ _)); refine blk_put (cs := #[.slice Ao9 t1300.length co9, .int .i64 t1303, .int .i64 0, .int .i64 0, .int .i64 0, .int .i64 0, .slice none 0 0]) ?_ 2 _ rfl; (with_reducible repeat (first | refine blk_drewN ?_ _ | refine blk_drew ?_ | refine blk_alloc ?_ _)); refine blk_put (cs := #[.slice Ao9 t1300.length co9, .int .i64 0, .int .i64 0, .int .i64 0, .int .i64 0, .int .i64 0, .slice none 0 0]) ?_ 1 _ rfl; (with_reducible repeat (first | refine blk_drewN ?_ _ | refine blk_drew ?_ | refine blk_alloc ?_ _)); refine blk_put (cs := #[.slice none 0 0, .int .i64 0, .int .i64 0, .int .i64 0, .int .i64 0, .int .i64 0, .slice none 0 0]) ?_ 0 _ rfl; (with_reducible repeat (first | refine blk_drewN ?_ _ | refine blk_drew ?_ | refine blk_alloc ?_ _)); exact BK1315.out⟩, ⟨by repeat (first | (with_reducible first | exact HB.out | apply below_alloc | apply pw_below_drewN | apply below_drew1 | refine below_set ?_ GE1299.out | refine below_set ?_ GE1315.out) | exact HB.out)⟩⟩
    case round =>
      clear H'
      try clear c1
      try clear c2
      try clear p2
      try clear c4
      try clear c6
      try clear p6
      try clear c10
      try clear hcz11_0
      try clear hcz11_1
      try clear hcz11_2
      try clear hcz11_3
      try clear hcz11_4
      try clear hcz11_5
      try clear hcz11_6
      try clear hcz13_0
      try clear hcz13_1
      try clear hcz13_2
      try clear hcz13_3
      try clear hcz13_4
      try clear hcz13_5
      try clear hcz13_6
      try clear hcz6_0
      try clear hcz6_1
      try clear hcz6_2
      try clear hcz6_3
      try clear hcz6_4
      try clear hcz6_5
      try clear hcz6_6
      try clear hfz11_0
      try clear hfz11_1
      try clear hfz11_2
      try clear hfz11_3
      try clear hfz11_4
      try clear hfz11_5
      try clear hfz11_6
      try clear hfz13_0
      try clear hfz13_1
      try clear hfz13_2
      try clear hfz13_3
      try clear hfz13_4
      try clear hfz13_5
      try clear hfz13_6
      try clear hfz6_0
      try clear hfz6_1
      try clear hfz6_2
      try clear hfz6_3
      try clear hfz6_4
      try clear hfz6_5
      try clear hfz6_6
      obtain ⟨x9_1, x28_1, rfl, rfl, HA, HK1, HO_26, HO_1316000, HO_1316006, BK1299, BK1315, HB⟩ := hrel
      cases gk with
      | zero => exact absurd HA.out (by simp [impl_LostBytes.l0])
      | succ k1 =>
        have H := HA.out
        clear HA
        simp only [impl_LostBytes.l0] at H
        by_cases c15 : x28_1 < (t1311.length : Int)
        · rw [if_pos c15] at H
          have c15b0 : decide (x28_1 < (t1311.length : Int)) = true := decide_eq_true c15
          clear c15
          by_cases c16 : 0 ≤ x28_1
          · rw [if_pos c16] at H
            have c16b0 : decide (0 ≤ x28_1) = true := decide_eq_true c16
            clear c16
            by_cases c17 : x28_1 < (t1311.length : Int)
            · rw [if_pos c17] at H
              have c17b0 : decide (x28_1 < (t1311.length : Int)) = true := decide_eq_true c17
              clear c17
              have H' := Aside0.mk H
              clear H
              have p1316 : 0 ≤ (x28_1 : Int) := of_decide_eq_true (by first | (with_reducible assumption) | assumption)
              have q1316 : x28_1 < (t1311.length : Int) := of_decide_eq_true (by first | (with_reducible assumption) | assumption)
              obtain ⟨ad1316, e1316, hx1316_0, hx1316_1, hx1316_2, hx1316_3⟩ := at_T32 (Kd.R_reads' HO_26.out).2.2 x28_1 p1316 q1316
              cases e1316
              replace p1316 := eq_true p1316
              replace q1316 := eq_true q1316
              go_wp2_with (first | ((with_reducible refine gate_dst (N := 11) rfl ?_); refine box_event ?hg (N := 11) ?hd (cs := #[.int .i64 0, .int .i64 0, .int .i64 0, .int .i64 0]) (t := 32) ?hr ?_; (case hd => rfl); (case hg => rfl); (case hr => first | (go_simp; done) | (go_simp; rfl)); intro gb1317 hg w18 hbox hb; have n0_ := Aside0.mk (Kd.R_below (Kd.R_elderB (by (with_reducible repeat (first | apply Kd.R_alloc | apply Kd.R_drewN | apply Kd.R_drew)); exact HO_26.out) gb1317 (Nat.le_of_eq hg.symm)) hb); have n1_ := Aside0.mk (Kd.S_below (by (with_reducible repeat (first | apply Kd.S_alloc | apply Kd.S_drewN | apply Kd.S_drew)); exact HO_1316000.out) hb); have n2_ := Aside0.mk (Kd.R_below (by (with_reducible repeat (first | apply Kd.R_alloc | apply Kd.R_drewN | apply Kd.R_drew)); exact HO_1316006.out) hb); have n3_ := Aside0.mk (blk_below (g := gb1299) (o := .cells #[.slice A0_0 l0_0.length c0_0, .int .i64 a0_1, .int .i64 a0_2, .int .i64 a0_3, .int .i64 a0_4, .int .i64 a0_5, .slice A0_6 l0_6.length c0_6] 34 (0, 0)) (by (with_reducible repeat (first | refine blk_drewN ?_ _ | refine blk_drew ?_ | refine blk_alloc ?_ _)); exact BK1299.out) hb); have n4_ := Aside0.mk (blk_below (g := gb1315) (o := .cells #[.slice Ao9 t1300.length co9, .int .i64 t1303, .int .i64 t1304, .int .i64 t1305, .int .i64 t1306, .int .i64 t1307, .slice Ao12 t1308.length co12] 34 (0, 0)) (by (with_reducible repeat (first | refine blk_drewN ?_ _ | refine blk_drew ?_ | refine blk_alloc ?_ _)); exact BK1315.out) hb); have n5_ := Aside0.mk (below_step (by repeat (first | (with_reducible first | exact HB.out | apply below_alloc | apply pw_below_drewN | apply below_drew1 | refine below_set ?_ GE1299.out | refine below_set ?_ GE1315.out) | exact HB.out)) hb); have n6_ := Aside0.mk (hbox); have n7_ := Aside0.mk ((by rw [hg]; exact (below_size (by repeat (first | (with_reducible first | exact HB.out | apply below_alloc | apply pw_below_drewN | apply below_drew1 | refine below_set ?_ GE1299.out | refine below_set ?_ GE1315.out) | exact HB.out))) : w.heap.size ≤ gb1317)); have n8_ := Aside0.mk ((by rw [hg]; exact (below_size (by repeat (first | (with_reducible first | exact HB.out | apply below_alloc | apply pw_below_drewN | apply below_drew1 | refine below_set ?_ GE1299.out | refine below_set ?_ GE1315.out) | exact HB.out))) : w.heap.size ≤ gb1317)); have n9_ := Aside0.mk ((by rw [hg]; exact Nat.ne_of_lt (blk_lt (g := gb1299) (o := .cells #[.slice A0_0 l0_0.length c0_0, .int .i64 a0_1, .int .i64 a0_2, .int .i64 a0_3, .int .i64 a0_4, .int .i64 a0_5, .slice A0_6 l0_6.length c0_6] 34 (0, 0)) (by (with_reducible repeat (first | refine blk_drewN ?_ _ | refine blk_drew ?_ | refine blk_alloc ?_ _)); exact BK1299.out)) : gb1299 ≠ gb1317)); have n10_ := Aside0.mk ((by rw [hg]; exact Nat.ne_of_gt (blk_lt (g := gb1299) (o := .cells #[.slice A0_0 l0_0.length c0_0, .int .i64 a0_1, .int .i64 a0_2, .int .i64 a0_3, .int .i64 a0_4, .int .i64 a0_5, .slice A0_6 l0_6.length c0_6] 34 (0, 0)) (by (with_reducible repeat (first | refine blk_drewN ?_ _ | refine blk_drew ?_ | refine blk_alloc ?_ _)); exact BK1299.out)) : gb1317 ≠ gb1299)); have n11_ := Aside0.mk ((by rw [hg]; exact Nat.ne_of_lt (blk_lt (g := gb1315) (o := .cells #[.slice Ao9 t1300.length co9, .int .i64 t1303, .int .i64 t1304, .int .i64 t1305, .int .i64 t1306, .int .i64 t1307, .slice Ao12 t1308.length co12] 34 (0, 0)) (by (with_reducible repeat (first | refine blk_drewN ?_ _ | refine blk_drew ?_ | refine blk_alloc ?_ _)); exact BK1315.out)) : gb1315 ≠ gb1317)); have n12_ := Aside0.mk ((by rw [hg]; exact Nat.ne_of_gt (blk_lt (g := gb1315) (o := .cells #[.slice Ao9 t1300.length co9, .int .i64 t1303, .int .i64 t1304, .int .i64 t1305, .int .i64 t1306, .int .i64 t1307, .slice Ao12 t1308.length co12] 34 (0, 0)) (by (with_reducible repeat (first | refine blk_drewN ?_ _ | refine blk_drew ?_ | refine blk_alloc ?_ _)); exact BK1315.out)) : gb1317 ≠ gb1315)); clear HO_26; clear HO_1316000; clear HO_1316006; clear BK1299; clear BK1315; clear HB; have HO_26 := n0_; have HO_1316000 := n1_; have HO_1316006 := n2_; have BK1299 := n3_; have BK1315 := n4_; have HB := n5_; have BK1317 := n6_; have GW1317 := n7_; have GE1317 := n8_; have NB1299_1317 := n9_; have NB1317_1299 := n10_; have NB1315_1317 := n11_; have NB1317_1315 := n12_; clear n0_ n1_ n2_ n3_ n4_ n5_ n6_ n7_ n8_ n9_ n10_ n11_ n12_; clear hb hbox hg; have hnb19 := NB1317_1299.out; have hnc19 := NB1299_1317.out; have hnb20 := NB1317_1315.out; have hnc20 := NB1315_1317.out; have hcz21_0 : w18.cell? ⟨gb1317, 0, none⟩ = some (.int .i64 0) := (blk_cell BK1317.out 0).trans rfl; have hcz21_1 : w18.cell? ⟨gb1317, 1, none⟩ = some (.int .i64 0) := (blk_cell BK1317.out 1).trans rfl; have hcz21_2 : w18.cell? ⟨gb1317, 2, none⟩ = some (.int .i64 0) := (blk_cell BK1317.out 2).trans rfl; have hcz21_3 : w18.cell? ⟨gb1317, 3, none⟩ = some (.int .i64 0) := (blk_cell BK1317.out 3).trans rfl; have hfz21_0 := blk_frozen BK1317.out 0; have hfz21_1 := blk_frozen BK1317.out 1; have hfz21_2 := blk_frozen BK1317.out 2; have hfz21_3 := blk_frozen BK1317.out 3))
              go_roundg k1
              case measure => have := HK1.out; omega
              case rel => exact ⟨(wrap64 (x9_1 - ((rd_T32 t1311 x28_1).f2))), (wrap64 (x28_1 + 1)), (by first | rfl | (simp; done) | (simp [*]; done)), (by first | rfl | (simp; done) | (simp [*]; done)), H', ⟨by have := HK1.out; omega⟩, ⟨by (with_reducible repeat (first | apply Kd.R_alloc | apply Kd.R_drewN | apply Kd.R_drew)); exact Kd.R_mono (Kd.R_far (p := ⟨gb1317, 3, none⟩) (Kd.R_far (p := ⟨gb1317, 2, none⟩) (Kd.R_far (p := ⟨gb1317, 1, none⟩) (Kd.R_far (p := ⟨gb1317, 0, none⟩) (Kd.R_mono HO_26.out (fun k_ hk => (⟨hk, hk.2⟩ : _ ∧ k_ ≠ gb1317))) (fun _ hk => hk.2) (.int .i64 ((rd_T32 t1311 x28_1).f0))) (fun _ hk => hk.2) (.int .i64 ((rd_T32 t1311 x28_1).f1))) (fun _ hk => hk.2) (.int .i64 ((rd_T32 t1311 x28_1).f2))) (fun _ hk => hk.2) (.int .i64 ((rd_T32 t1311 x28_1).f3))) (fun _ hk => trivial)⟩, ⟨by (with_reducible repeat (first | apply Kd.S_alloc | apply Kd.S_drewN | apply Kd.S_drew)); exact Kd.S_mono (Kd.S_far (p := ⟨gb1317, 3, none⟩) (Kd.S_far (p := ⟨gb1317, 2, none⟩) (Kd.S_far (p := ⟨gb1317, 1, none⟩) (Kd.S_far (p := ⟨gb1317, 0, none⟩) (Kd.S_types HO_1316000.out BK1317.out (by decide)) (fun _ hk => hk.2) (.int .i64 ((rd_T32 t1311 x28_1).f0))) (fun _ hk => hk.2) (.int .i64 ((rd_T32 t1311 x28_1).f1))) (fun _ hk => hk.2) (.int .i64 ((rd_T32 t1311 x28_1).f2))) (fun _ hk => hk.2) (.int .i64 ((rd_T32 t1311 x28_1).f3))) (fun _ hk => trivial)⟩, ⟨by (with_reducible repeat (first | apply Kd.R_alloc | apply Kd.R_drewN | apply Kd.R_drew)); exact Kd.R_mono (Kd.R_far (p := ⟨gb1317, 3, none⟩) (Kd.R_far (p := ⟨gb1317, 2, none⟩) (Kd.R_far (p := ⟨gb1317, 1, none⟩) (Kd.R_far (p := ⟨gb1317, 0, none⟩) (Kd.R_types HO_1316006.out BK1317.out (by decide)) (fun _ hk => hk.2) (.int .i64 ((rd_T32 t1311 x28_1).f0))) (fun _ hk => hk.2) (.int .i64 ((rd_T32 t1311 x28_1).f1))) (fun _ hk => hk.2) (.int .i64 ((rd_T32 t1311 x28_1).f2))) (fun _ hk => hk.2) (.int .i64 ((rd_T32 t1311 x28_1).f3))) (fun _ hk => trivial)⟩, ⟨by (with_reducible repeat (first | refine blk_drewN ?_ _ | refine blk_drew ?_ | refine blk_alloc ?_ _)); refine blk_far ?_ NB1299_1317.out _; (with_reducible repeat (first | refine blk_drewN ?_ _ | refine blk_drew ?_ | refine blk_alloc ?_ _)); refine blk_far ?_ NB1299_1317.out _; (with_reducible repeat (first | refine blk_drewN ?_ _ | refine blk_drew ?_ | refine blk_alloc ?_ _)); refine blk_far ?_ NB1299_1317.out _; (with_reducible repeat (first | refine blk_drewN ?_ _ | refine blk_drew ?_ | refine blk_alloc ?_ _)); refine blk_far ?_ NB1299_1317.out _; (with_reducible repeat (first | refine blk_drewN ?_ _ | refine blk_drew ?_ | refine blk_alloc ?_ _)); exact BK1299.out⟩, ⟨by (with_reducible repeat (first | refine blk_drewN ?_ _ | refine blk_drew ?_ | refine blk_alloc ?_ _)); refine blk_far ?_ NB1315_1317.out _; (with_reducible repeat (first | refine blk_drewN ?_ _ | refine blk_drew ?_ | refine blk_alloc ?_ _)); refine blk_far ?_ NB1315_1317.out _; (with_reducible repeat (first | refine blk_drewN ?_ _ | refine blk_drew ?_ | refine blk_alloc ?_ _)); refine blk_far ?_ NB1315_1317.out _; (with_reducible repeat (first | refine blk_drewN ?_ _ | refine blk_drew ?_ | refine blk_alloc ?_ _)); refine blk_far ?_ NB1315_1317.out _; (with_reducible repeat (first | refine blk_drewN ?_ _ | refine blk_drew ?_ | refine blk_alloc ?_ _)); exact BK1315.out⟩, ⟨by repeat (first | (with_reducible first | exact HB.out | apply below_alloc | apply pw_below_drewN | apply below_drew1 | refine below_set ?_ GE1299.out | refine below_set ?_ GE1315.out | refine below_set ?_ GE1317.out) | exact HB.out)⟩⟩
            · rw [if_neg c17] at H
              exact absurd H (by simp)
          · rw [if_neg c16] at H
            exact absurd H (by simp)
        · rw [if_neg c15] at H
          have c15b0 : decide (x28_1 < (t1311.length : Int)) = false := decide_eq_false c15
          clear c15
          simp only [Option.some.injEq, Prod.mk.injEq] at H
          obtain ⟨rfl, rfl⟩ := H
          go_wp2
          go_ret2
          exact ⟨by first | rfl | (simp [errW_none, errW_some] <;> rfl) | (simp [*, errW_none, errW_some] <;> rfl), by repeat (first | (with_reducible first | exact HB.out | apply below_alloc | apply pw_below_drewN | apply below_drew1 | refine below_set ?_ GE1299.out | refine below_set ?_ GE1315.out) | exact HB.out)⟩
  · replace c4 := Bool.eq_false_iff.mpr c4
    subst c4
    have H1 : (some (0, false)) = some (r1, r2) := by rw [if_neg (show ¬ (false = true) by decide)] at H; exact H
    clear H
    have H := H1
    clear H1
    simp only [Option.some.injEq, Prod.mk.injEq] at H
    obtain ⟨rfl, rfl⟩ := H
    go_enter Try.func66, Try.ntmps66
    go_wp2_with (first | ((with_reducible refine gate_dst (N := 2) rfl ?_); refine box_event ?hg (N := 2) ?hd (cs := #[.slice A0_0 l0_0.length c0_0, .int .i64 a0_1, .int .i64 a0_2, .int .i64 a0_3, .int .i64 a0_4, .int .i64 a0_5, .slice A0_6 l0_6.length c0_6]) (t := 34) ?hr ?_; (case hd => rfl); (case hg => rfl); (case hr => first | (go_simp; done) | (go_simp; rfl)); intro gb1299 hg w22 hbox hb; have n0_ := Aside0.mk (below_step (by repeat (first | (with_reducible first | exact HB.out | apply below_alloc | apply pw_below_drewN | apply below_drew1) | exact HB.out)) hb); have n1_ := Aside0.mk (hbox); have n2_ := Aside0.mk ((by rw [hg]; exact (below_size (by repeat (first | (with_reducible first | exact HB.out | apply below_alloc | apply pw_below_drewN | apply below_drew1) | exact HB.out))) : w.heap.size ≤ gb1299)); have n3_ := Aside0.mk ((by rw [hg]; exact (below_size (by repeat (first | (with_reducible first | exact HB.out | apply below_alloc | apply pw_below_drewN | apply below_drew1) | exact HB.out))) : w.heap.size ≤ gb1299)); clear HB; have HB := n0_; have BK1299 := n1_; have GW1299 := n2_; have GE1299 := n3_; clear n0_ n1_ n2_ n3_; clear hb hbox hg; have hcz23_0 : w22.cell? ⟨gb1299, 0, none⟩ = some (.slice A0_0 l0_0.length c0_0) := (blk_cell BK1299.out 0).trans rfl; have hcz23_1 : w22.cell? ⟨gb1299, 1, none⟩ = some (.int .i64 a0_1) := (blk_cell BK1299.out 1).trans rfl; have hcz23_2 : w22.cell? ⟨gb1299, 2, none⟩ = some (.int .i64 a0_2) := (blk_cell BK1299.out 2).trans rfl; have hcz23_3 : w22.cell? ⟨gb1299, 3, none⟩ = some (.int .i64 a0_3) := (blk_cell BK1299.out 3).trans rfl; have hcz23_4 : w22.cell? ⟨gb1299, 4, none⟩ = some (.int .i64 a0_4) := (blk_cell BK1299.out 4).trans rfl; have hcz23_5 : w22.cell? ⟨gb1299, 5, none⟩ = some (.int .i64 a0_5) := (blk_cell BK1299.out 5).trans rfl; have hcz23_6 : w22.cell? ⟨gb1299, 6, none⟩ = some (.slice A0_6 l0_6.length c0_6) := (blk_cell BK1299.out 6).trans rfl; have hfz23_0 := blk_frozen BK1299.out 0; have hfz23_1 := blk_frozen BK1299.out 1; have hfz23_2 := blk_frozen BK1299.out 2; have hfz23_3 := blk_frozen BK1299.out 3; have hfz23_4 := blk_frozen BK1299.out 4; have hfz23_5 := blk_frozen BK1299.out 5; have hfz23_6 := blk_frozen BK1299.out 6) | ((with_reducible refine gate_callee (f := 200) rfl ?_); refine goesL_ (some 15) rfl rfl Try.func200 (by kernel_rfl) rfl #[.agg #[.slice A0_0 l0_0.length c0_0, .int .i64 a0_1, .int .i64 a0_2, .int .i64 a0_3, .int .i64 a0_4, .int .i64 a0_5, .slice A0_6 l0_6.length c0_6], .slice A1 l1.length c1] rfl (by (try simp only [List.map_toArray, List.map_cons, List.map_nil]); first | done | rfl | (simp only [List.length_drop, List.length_take]; rfl)) ?_; (with_reducible refine (impl_GiveAll.calls k _ _ l0_0 a0_1 a0_2 a0_3 a0_4 a0_5 _ _ l0_6 _ _ l1 t1300 t1303 t1304 t1305 t1306 t1307 t1308 t1311 false _ ?side1 ?side2 ?side3 ?side4 ?side5 ?side6 A3.out).mono ?_); (case side1 => repeat (first | exact (Kd.C_below HR0_0.out HB.out) | (with_reducible refine Kd.C_alloc ?_ _) | (with_reducible refine Kd.C_drewN ?_ _) | (with_reducible refine Kd.C_drew ?_))); (case side2 => exact HC0_0.out); (case side3 => repeat (first | exact (Kd.C_below HR0_6.out HB.out) | (with_reducible refine Kd.C_alloc ?_ _) | (with_reducible refine Kd.C_drewN ?_ _) | (with_reducible refine Kd.C_drew ?_))); (case side4 => exact HC0_6.out); (case side5 => repeat (first | exact (Kd.C_below HR1.out HB.out) | (with_reducible refine Kd.C_alloc ?_ _) | (with_reducible refine Kd.C_drewN ?_ _) | (with_reducible refine Kd.C_drew ?_))); (case side6 => exact HC1.out); rintro e w24 ⟨v1301, v1309, v1312, rfl, ho0, ho1, ho2, hb⟩; refine ⟨_, rfl, ?_⟩; have n0_ := Aside0.mk (Kd.S_lower ho0 (below_size (by repeat (first | (with_reducible first | exact HB.out | apply below_alloc | apply pw_below_drewN | apply below_drew1 | refine below_set ?_ GE1299.out) | exact HB.out)))); have n1_ := Aside0.mk (Kd.R_lower ho1 (below_size (by repeat (first | (with_reducible first | exact HB.out | apply below_alloc | apply pw_below_drewN | apply below_drew1 | refine below_set ?_ GE1299.out) | exact HB.out)))); have n2_ := Aside0.mk (Kd.R_lower ho2 (below_size (by repeat (first | (with_reducible first | exact HB.out | apply below_alloc | apply pw_below_drewN | apply below_drew1 | refine below_set ?_ GE1299.out) | exact HB.out)))); have n3_ := Aside0.mk (blk_below (g := gb1299) (o := .cells #[.slice A0_0 l0_0.length c0_0, .int .i64 a0_1, .int .i64 a0_2, .int .i64 a0_3, .int .i64 a0_4, .int .i64 a0_5, .slice A0_6 l0_6.length c0_6] 34 (0, 0)) (by (with_reducible repeat (first | refine blk_drewN ?_ _ | refine blk_drew ?_ | refine blk_alloc ?_ _)); exact BK1299.out) hb); have n4_ := Aside0.mk (below_step (by repeat (first | (with_reducible first | exact HB.out | apply below_alloc | apply pw_below_drewN | apply below_drew1 | refine below_set ?_ GE1299.out) | exact HB.out)) hb); clear BK1299; clear HB; have HO1302 := n0_; have HO1310 := n1_; have HO1313 := n2_; have BK1299 := n3_; have HB := n4_; clear n0_ n1_ n2_ n3_ n4_; (try clear hb); (try clear hb2); (try clear hk); (try clear hi); (try clear ho0); (try clear ho1); (try clear ho2)) | ((with_reducible refine gate_dst (N := 6) rfl ?_); refine box_event ?hg (N := 6) ?hd (cs := #[.slice none 0 0, .int .i64 0, .int .i64 0, .int .i64 0, .int .i64 0, .int .i64 0, .slice none 0 0]) (t := 34) ?hr ?_; (case hd => rfl); (case hg => rfl); (case hr => first | (go_simp; done) | (go_simp; rfl)); intro gb1315 hg w25 hbox hb; have n0_ := Aside0.mk (Kd.S_below (by (with_reducible repeat (first | apply Kd.S_alloc | apply Kd.S_drewN | apply Kd.S_drew)); exact HO1302.out) hb); have n1_ := Aside0.mk (Kd.R_below (by (with_reducible repeat (first | apply Kd.R_alloc | apply Kd.R_drewN | apply Kd.R_drew)); exact HO1310.out) hb); have n2_ := Aside0.mk (Kd.R_below (by (with_reducible repeat (first | apply Kd.R_alloc | apply Kd.R_drewN | apply Kd.R_drew)); exact HO1313.out) hb); have n3_ := Aside0.mk (blk_below (g := gb1299) (o := .cells #[.slice A0_0 l0_0.length c0_0, .int .i64 a0_1, .int .i64 a0_2, .int .i64 a0_3, .int .i64 a0_4, .int .i64 a0_5, .slice A0_6 l0_6.length c0_6] 34 (0, 0)) (by (with_reducible repeat (first | refine blk_drewN ?_ _ | refine blk_drew ?_ | refine blk_alloc ?_ _)); exact BK1299.out) hb); have n4_ := Aside0.mk (below_step (by repeat (first | (with_reducible first | exact HB.out | apply below_alloc | apply pw_below_drewN | apply below_drew1 | refine below_set ?_ GE1299.out) | exact HB.out)) hb); have n5_ := Aside0.mk (hbox); have n6_ := Aside0.mk ((by rw [hg]; exact (below_size (by repeat (first | (with_reducible first | exact HB.out | apply below_alloc | apply pw_below_drewN | apply below_drew1 | refine below_set ?_ GE1299.out) | exact HB.out))) : w.heap.size ≤ gb1315)); have n7_ := Aside0.mk ((by rw [hg]; exact (below_size (by repeat (first | (with_reducible first | exact HB.out | apply below_alloc | apply pw_below_drewN | apply below_drew1 | refine below_set ?_ GE1299.out) | exact HB.out))) : w.heap.size ≤ gb1315)); have n8_ := Aside0.mk ((by rw [hg]; exact Nat.ne_of_lt (blk_lt (g := gb1299) (o := .cells #[.slice A0_0 l0_0.length c0_0, .int .i64 a0_1, .int .i64 a0_2, .int .i64 a0_3, .int .i64 a0_4, .int .i64 a0_5, .slice A0_6 l0_6.length c0_6] 34 (0, 0)) (by (with_reducible repeat (first | refine blk_drewN ?_ _ | refine blk_drew ?_ | refine blk_alloc ?_ _)); exact BK1299.out)) : gb1299 ≠ gb1315)); have n9_ := Aside0.mk ((by rw [hg]; exact Nat.ne_of_gt (blk_lt (g := gb1299) (o := .cells #[.slice A0_0 l0_0.length c0_0, .int .i64 a0_1, .int .i64 a0_2, .int .i64 a0_3, .int .i64 a0_4, .int .i64 a0_5, .slice A0_6 l0_6.length c0_6] 34 (0, 0)) (by (with_reducible repeat (first | refine blk_drewN ?_ _ | refine blk_drew ?_ | refine blk_alloc ?_ _)); exact BK1299.out)) : gb1315 ≠ gb1299)); clear HO1302; clear HO1310; clear HO1313; clear BK1299; clear HB; have HO1302 := n0_; have HO1310 := n1_; have HO1313 := n2_; have BK1299 := n3_; have HB := n4_; have BK1315 := n5_; have GW1315 := n6_; have GE1315 := n7_; have NB1299_1315 := n8_; have NB1315_1299 := n9_; clear n0_ n1_ n2_ n3_ n4_ n5_ n6_ n7_ n8_ n9_; clear hb hbox hg; obtain ⟨Ao26, co26, eo26⟩ := Kd.S_slice HO1302.out; subst eo26; have hnb27 := NB1315_1299.out; have hnc27 := NB1299_1315.out; have hcz28_0 : w25.cell? ⟨gb1315, 0, none⟩ = some (.slice none 0 0) := (blk_cell BK1315.out 0).trans rfl; have hcz28_1 : w25.cell? ⟨gb1315, 1, none⟩ = some (.int .i64 0) := (blk_cell BK1315.out 1).trans rfl; have hcz28_2 : w25.cell? ⟨gb1315, 2, none⟩ = some (.int .i64 0) := (blk_cell BK1315.out 2).trans rfl; have hcz28_3 : w25.cell? ⟨gb1315, 3, none⟩ = some (.int .i64 0) := (blk_cell BK1315.out 3).trans rfl; have hcz28_4 : w25.cell? ⟨gb1315, 4, none⟩ = some (.int .i64 0) := (blk_cell BK1315.out 4).trans rfl; have hcz28_5 : w25.cell? ⟨gb1315, 5, none⟩ = some (.int .i64 0) := (blk_cell BK1315.out 5).trans rfl; have hcz28_6 : w25.cell? ⟨gb1315, 6, none⟩ = some (.slice none 0 0) := (blk_cell BK1315.out 6).trans rfl; have hfz28_0 := blk_frozen BK1315.out 0; have hfz28_1 := blk_frozen BK1315.out 1; have hfz28_2 := blk_frozen BK1315.out 2; have hfz28_3 := blk_frozen BK1315.out 3; have hfz28_4 := blk_frozen BK1315.out 4; have hfz28_5 := blk_frozen BK1315.out 5; have hfz28_6 := blk_frozen BK1315.out 6; obtain ⟨Ao29, co29, eo29⟩ := Kd.R_slice HO1310.out; subst eo29))
    go_ret2
    exact ⟨by first | rfl | (simp [errW_none, errW_some] <;> rfl) | (simp [*, errW_none, errW_some] <;> rfl), by repeat (first | (with_reducible first | exact HB.out | apply below_alloc | apply pw_below_drewN | apply below_drew1 | refine below_set ?_ GE1299.out | refine below_set ?_ GE1315.out) | exact HB.out)⟩
end Go.Proofs.Ythlppjdlljofdaa.P
namespace Go.Proofs.Ythlppjdlljofdaa.P
open Go.RowKit Go.Proofs.YthlppjdlljofdaaW.PrintWords Go.Proofs.YthlppjdlljofdaaW.PrintLast Go.Proofs.YthlppjdlljofdaaW.PrintMore
attribute [local go_sem] max2_int min2_int max_two min_two max_three min_three max_four min_four   -- for this text's walks alone
set_option linter.unusedVariables false
set_option linter.unusedSimpArgs false

def laws_eqAsked.f (a0_0 : Int) (a0_1 : Int) (a1_0 : Int) (a1_1 : Int) : Option (Bool) := if a0_0 = a1_0 then (if a0_1 = a1_1 then (some true) else (some false)) else (some false)

set_option maxHeartbeats 8000000 in
set_option maxRecDepth 100000 in
theorem laws_eqAsked.calls (a0_0 : Int) (a0_1 : Int) (a1_0 : Int) (a1_1 : Int) (r : Bool) (w : World) (h : laws_eqAsked.f a0_0 a0_1 a1_0 a1_1 = some r) :
    Calls Try.prog 201 #[.agg #[.int .i64 a0_0, .int .i64 a0_1], .agg #[.int .i64 a1_0, .int .i64 a1_1]] w fun e w' => e = .returned (.bool r) ∧ Below w.heap.size w w' := by
  have hu128 := Try.underlying128
  have HB := Aside0.mk (Below.refl w.heap.size w)
  have H : (if a0_0 = a1_0 then (if a0_1 = a1_1 then (some true) else (some false)) else (some false)) = some r := h
  clear h
  by_cases c3 : a0_0 = a1_0
  · rw [if_pos c3] at H
    have c3b0 : (a0_0 == a1_0) = true := beq_iff_eq.mpr c3
    have c3b1 : (a0_0 != a1_0) = false := bne_eq_false_iff_eq.mpr c3
    clear c3
    by_cases c4 : a0_1 = a1_1
    · rw [if_pos c4] at H
      have c4b0 : (a0_1 == a1_1) = true := beq_iff_eq.mpr c4
      have c4b1 : (a0_1 != a1_1) = false := bne_eq_false_iff_eq.mpr c4
      clear c4
      obtain rfl := Option.some.inj H
      go_enter Try.func201, Try.ntmps201
      go_wp2_with (first | ((with_reducible refine gate_dst (N := 2) rfl ?_); refine box_event ?hg (N := 2) ?hd (cs := #[.int .i64 a0_0, .int .i64 a0_1]) (t := 128) ?hr ?_; (case hd => rfl); (case hg => rfl); (case hr => first | (go_simp; done) | (go_simp; rfl)); intro gb1301 hg w5 hbox hb; have n0_ := Aside0.mk (below_step (by repeat (first | (with_reducible first | exact HB.out | apply below_alloc | apply pw_below_drewN | apply below_drew1) | exact HB.out)) hb); have n1_ := Aside0.mk (hbox); have n2_ := Aside0.mk ((by rw [hg]; exact (below_size (by repeat (first | (with_reducible first | exact HB.out | apply below_alloc | apply pw_below_drewN | apply below_drew1) | exact HB.out))) : w.heap.size ≤ gb1301)); have n3_ := Aside0.mk ((by rw [hg]; exact (below_size (by repeat (first | (with_reducible first | exact HB.out | apply below_alloc | apply pw_below_drewN | apply below_drew1) | exact HB.out))) : w.heap.size ≤ gb1301)); clear HB; have HB := n0_; have BK1301 := n1_; have GW1301 := n2_; have GE1301 := n3_; clear n0_ n1_ n2_ n3_; clear hb hbox hg) | ((with_reducible refine gate_dst (N := 3) rfl ?_); refine box_event ?hg (N := 3) ?hd (cs := #[.int .i64 a1_0, .int .i64 a1_1]) (t := 128) ?hr ?_; (case hd => rfl); (case hg => rfl); (case hr => first | (go_simp; done) | (go_simp; rfl)); intro gb1302 hg w6 hbox hb; have n0_ := Aside0.mk (blk_below (g := gb1301) (o := .cells #[.int .i64 a0_0, .int .i64 a0_1] 128 (0, 0)) (by (with_reducible repeat (first | refine blk_drewN ?_ _ | refine blk_drew ?_ | refine blk_alloc ?_ _)); exact BK1301.out) hb); have n1_ := Aside0.mk (below_step (by repeat (first | (with_reducible first | exact HB.out | apply below_alloc | apply pw_below_drewN | apply below_drew1 | refine below_set ?_ GE1301.out) | exact HB.out)) hb); have n2_ := Aside0.mk (hbox); have n3_ := Aside0.mk ((by rw [hg]; exact (below_size (by repeat (first | (with_reducible first | exact HB.out | apply below_alloc | apply pw_below_drewN | apply below_drew1 | refine below_set ?_ GE1301.out) | exact HB.out))) : w.heap.size ≤ gb1302)); have n4_ := Aside0.mk ((by rw [hg]; exact (below_size (by repeat (first | (with_reducible first | exact HB.out | apply below_alloc | apply pw_below_drewN | apply below_drew1 | refine below_set ?_ GE1301.out) | exact HB.out))) : w.heap.size ≤ gb1302)); have n5_ := Aside0.mk ((by rw [hg]; exact Nat.ne_of_lt (blk_lt (g := gb1301) (o := .cells #[.int .i64 a0_0, .int .i64 a0_1] 128 (0, 0)) (by (with_reducible repeat (first | refine blk_drewN ?_ _ | refine blk_drew ?_ | refine blk_alloc ?_ _)); exact BK1301.out)) : gb1301 ≠ gb1302)); have n6_ := Aside0.mk ((by rw [hg]; exact Nat.ne_of_gt (blk_lt (g := gb1301) (o := .cells #[.int .i64 a0_0, .int .i64 a0_1] 128 (0, 0)) (by (with_reducible repeat (first | refine blk_drewN ?_ _ | refine blk_drew ?_ | refine blk_alloc ?_ _)); exact BK1301.out)) : gb1302 ≠ gb1301)); clear BK1301; clear HB; have BK1301 := n0_; have HB := n1_; have BK1302 := n2_; have GW1302 := n3_; have GE1302 := n4_; have NB1301_1302 := n5_; have NB1302_1301 := n6_; clear n0_ n1_ n2_ n3_ n4_ n5_ n6_; clear hb hbox hg; have hnb7 := NB1301_1302.out; have hnc7 := NB1302_1301.out; have hcz8_0 : w6.cell? ⟨gb1301, 0, none⟩ = some (.int .i64 a0_0) := (blk_cell BK1301.out 0).trans rfl; have hcz8_1 : w6.cell? ⟨gb1301, 1, none⟩ = some (.int .i64 a0_1) := (blk_cell BK1301.out 1).trans rfl; have hfz8_0 := blk_frozen BK1301.out 0; have hfz8_1 := blk_frozen BK1301.out 1; have hcz9_0 : w6.cell? ⟨gb1302, 0, none⟩ = some (.int .i64 a1_0) := (blk_cell BK1302.out 0).trans rfl; have hcz9_1 : w6.cell? ⟨gb1302, 1, none⟩ = some (.int .i64 a1_1) := (blk_cell BK1302.out 1).trans rfl; have hfz9_0 := blk_frozen BK1302.out 0; have hfz9_1 := blk_frozen BK1302.out 1))
      go_ret
      exact ⟨by first | rfl | (simp [errW_none, errW_some] <;> rfl) | (simp [*, errW_none, errW_some] <;> rfl), by repeat (first | (with_reducible first | exact HB.out | apply below_alloc | apply pw_below_drewN | apply below_drew1 | refine below_set ?_ GE1301.out | refine below_set ?_ GE1302.out) | exact HB.out)⟩
    · rw [if_neg c4] at H
      have c4b0 : (a0_1 == a1_1) = false := beq_eq_false_iff_ne.mpr c4
      have c4b1 : (a0_1 != a1_1) = true := bne_iff_ne.mpr c4
      obtain rfl := Option.some.inj H
      go_enter Try.func201, Try.ntmps201
      go_wp2_with (first | ((with_reducible refine gate_dst (N := 2) rfl ?_); refine box_event ?hg (N := 2) ?hd (cs := #[.int .i64 a0_0, .int .i64 a0_1]) (t := 128) ?hr ?_; (case hd => rfl); (case hg => rfl); (case hr => first | (go_simp; done) | (go_simp; rfl)); intro gb1301 hg w10 hbox hb; have n0_ := Aside0.mk (below_step (by repeat (first | (with_reducible first | exact HB.out | apply below_alloc | apply pw_below_drewN | apply below_drew1) | exact HB.out)) hb); have n1_ := Aside0.mk (hbox); have n2_ := Aside0.mk ((by rw [hg]; exact (below_size (by repeat (first | (with_reducible first | exact HB.out | apply below_alloc | apply pw_below_drewN | apply below_drew1) | exact HB.out))) : w.heap.size ≤ gb1301)); have n3_ := Aside0.mk ((by rw [hg]; exact (below_size (by repeat (first | (with_reducible first | exact HB.out | apply below_alloc | apply pw_below_drewN | apply below_drew1) | exact HB.out))) : w.heap.size ≤ gb1301)); clear HB; have HB := n0_; have BK1301 := n1_; have GW1301 := n2_; have GE1301 := n3_; clear n0_ n1_ n2_ n3_; clear hb hbox hg) | ((with_reducible refine gate_dst (N := 3) rfl ?_); refine box_event ?hg (N := 3) ?hd (cs := #[.int .i64 a1_0, .int .i64 a1_1]) (t := 128) ?hr ?_; (case hd => rfl); (case hg => rfl); (case hr => first | (go_simp; done) | (go_simp; rfl)); intro gb1302 hg w11 hbox hb; have n0_ := Aside0.mk (blk_below (g := gb1301) (o := .cells #[.int .i64 a0_0, .int .i64 a0_1] 128 (0, 0)) (by (with_reducible repeat (first | refine blk_drewN ?_ _ | refine blk_drew ?_ | refine blk_alloc ?_ _)); exact BK1301.out) hb); have n1_ := Aside0.mk (below_step (by repeat (first | (with_reducible first | exact HB.out | apply below_alloc | apply pw_below_drewN | apply below_drew1 | refine below_set ?_ GE1301.out) | exact HB.out)) hb); have n2_ := Aside0.mk (hbox); have n3_ := Aside0.mk ((by rw [hg]; exact (below_size (by repeat (first | (with_reducible first | exact HB.out | apply below_alloc | apply pw_below_drewN | apply below_drew1 | refine below_set ?_ GE1301.out) | exact HB.out))) : w.heap.size ≤ gb1302)); have n4_ := Aside0.mk ((by rw [hg]; exact (below_size (by repeat (first | (with_reducible first | exact HB.out | apply below_alloc | apply pw_below_drewN | apply below_drew1 | refine below_set ?_ GE1301.out) | exact HB.out))) : w.heap.size ≤ gb1302)); have n5_ := Aside0.mk ((by rw [hg]; exact Nat.ne_of_lt (blk_lt (g := gb1301) (o := .cells #[.int .i64 a0_0, .int .i64 a0_1] 128 (0, 0)) (by (with_reducible repeat (first | refine blk_drewN ?_ _ | refine blk_drew ?_ | refine blk_alloc ?_ _)); exact BK1301.out)) : gb1301 ≠ gb1302)); have n6_ := Aside0.mk ((by rw [hg]; exact Nat.ne_of_gt (blk_lt (g := gb1301) (o := .cells #[.int .i64 a0_0, .int .i64 a0_1] 128 (0, 0)) (by (with_reducible repeat (first | refine blk_drewN ?_ _ | refine blk_drew ?_ | refine blk_alloc ?_ _)); exact BK1301.out)) : gb1302 ≠ gb1301)); clear BK1301; clear HB; have BK1301 := n0_; have HB := n1_; have BK1302 := n2_; have GW1302 := n3_; have GE1302 := n4_; have NB1301_1302 := n5_; have NB1302_1301 := n6_; clear n0_ n1_ n2_ n3_ n4_ n5_ n6_; clear hb hbox hg; have hnb12 := NB1301_1302.out; have hnc12 := NB1302_1301.out; have hcz13_0 : w11.cell? ⟨gb1301, 0, none⟩ = some (.int .i64 a0_0) := (blk_cell BK1301.out 0).trans rfl; have hcz13_1 : w11.cell? ⟨gb1301, 1, none⟩ = some (.int .i64 a0_1) := (blk_cell BK1301.out 1).trans rfl; have hfz13_0 := blk_frozen BK1301.out 0; have hfz13_1 := blk_frozen BK1301.out 1; have hcz14_0 : w11.cell? ⟨gb1302, 0, none⟩ = some (.int .i64 a1_0) := (blk_cell BK1302.out 0).trans rfl; have hcz14_1 : w11.cell? ⟨gb1302, 1, none⟩ = some (.int .i64 a1_1) := (blk_cell BK1302.out 1).trans rfl; have hfz14_0 := blk_frozen BK1302.out 0; have hfz14_1 := blk_frozen BK1302.out 1))
      go_ret
      exact ⟨by first | rfl | (simp [errW_none, errW_some] <;> rfl) | (simp [*, errW_none, errW_some] <;> rfl), by repeat (first | (with_reducible first | exact HB.out | apply below_alloc | apply pw_below_drewN | apply below_drew1 | refine below_set ?_ GE1301.out | refine below_set ?_ GE1302.out) | exact HB.out)⟩
  · rw [if_neg c3] at H
    have c3b0 : (a0_0 == a1_0) = false := beq_eq_false_iff_ne.mpr c3
    have c3b1 : (a0_0 != a1_0) = true := bne_iff_ne.mpr c3
    obtain rfl := Option.some.inj H
    go_enter Try.func201, Try.ntmps201
    go_wp2_with (first | ((with_reducible refine gate_dst (N := 2) rfl ?_); refine box_event ?hg (N := 2) ?hd (cs := #[.int .i64 a0_0, .int .i64 a0_1]) (t := 128) ?hr ?_; (case hd => rfl); (case hg => rfl); (case hr => first | (go_simp; done) | (go_simp; rfl)); intro gb1301 hg w15 hbox hb; have n0_ := Aside0.mk (below_step (by repeat (first | (with_reducible first | exact HB.out | apply below_alloc | apply pw_below_drewN | apply below_drew1) | exact HB.out)) hb); have n1_ := Aside0.mk (hbox); have n2_ := Aside0.mk ((by rw [hg]; exact (below_size (by repeat (first | (with_reducible first | exact HB.out | apply below_alloc | apply pw_below_drewN | apply below_drew1) | exact HB.out))) : w.heap.size ≤ gb1301)); have n3_ := Aside0.mk ((by rw [hg]; exact (below_size (by repeat (first | (with_reducible first | exact HB.out | apply below_alloc | apply pw_below_drewN | apply below_drew1) | exact HB.out))) : w.heap.size ≤ gb1301)); clear HB; have HB := n0_; have BK1301 := n1_; have GW1301 := n2_; have GE1301 := n3_; clear n0_ n1_ n2_ n3_; clear hb hbox hg) | ((with_reducible refine gate_dst (N := 3) rfl ?_); refine box_event ?hg (N := 3) ?hd (cs := #[.int .i64 a1_0, .int .i64 a1_1]) (t := 128) ?hr ?_; (case hd => rfl); (case hg => rfl); (case hr => first | (go_simp; done) | (go_simp; rfl)); intro gb1302 hg w16 hbox hb; have n0_ := Aside0.mk (blk_below (g := gb1301) (o := .cells #[.int .i64 a0_0, .int .i64 a0_1] 128 (0, 0)) (by (with_reducible repeat (first | refine blk_drewN ?_ _ | refine blk_drew ?_ | refine blk_alloc ?_ _)); exact BK1301.out) hb); have n1_ := Aside0.mk (below_step (by repeat (first | (with_reducible first | exact HB.out | apply below_alloc | apply pw_below_drewN | apply below_drew1 | refine below_set ?_ GE1301.out) | exact HB.out)) hb); have n2_ := Aside0.mk (hbox); have n3_ := Aside0.mk ((by rw [hg]; exact (below_size (by repeat (first | (with_reducible first | exact HB.out | apply below_alloc | apply pw_below_drewN | apply below_drew1 | refine below_set ?_ GE1301.out) | exact HB.out))) : w.heap.size ≤ gb1302)); have n4_ := Aside0.mk ((by rw [hg]; exact (below_size (by repeat (first | (with_reducible first | exact HB.out | apply below_alloc | apply pw_below_drewN | apply below_drew1 | refine below_set ?_ GE1301.out) | exact HB.out))) : w.heap.size ≤ gb1302)); have n5_ := Aside0.mk ((by rw [hg]; exact Nat.ne_of_lt (blk_lt (g := gb1301) (o := .cells #[.int .i64 a0_0, .int .i64 a0_1] 128 (0, 0)) (by (with_reducible repeat (first | refine blk_drewN ?_ _ | refine blk_drew ?_ | refine blk_alloc ?_ _)); exact BK1301.out)) : gb1301 ≠ gb1302)); have n6_ := Aside0.mk ((by rw [hg]; exact Nat.ne_of_gt (blk_lt (g := gb1301) (o := .cells #[.int .i64 a0_0, .int .i64 a0_1] 128 (0, 0)) (by (with_reducible repeat (first | refine blk_drewN ?_ _ | refine blk_drew ?_ | refine blk_alloc ?_ _)); exact BK1301.out)) : gb1302 ≠ gb1301)); clear BK1301; clear HB; have BK1301 := n0_; have HB := n1_; have BK1302 := n2_; have GW1302 := n3_; have GE1302 := n4_; have NB1301_1302 := n5_; have NB1302_1301 := n6_; clear n0_ n1_ n2_ n3_ n4_ n5_ n6_; clear hb hbox hg; have hnb17 := NB1301_1302.out; have hnc17 := NB1302_1301.out; have hcz18_0 : w16.cell? ⟨gb1301, 0, none⟩ = some (.int .i64 a0_0) := (blk_cell BK1301.out 0).trans rfl; have hcz18_1 : w16.cell? ⟨gb1301, 1, none⟩ = some (.int .i64 a0_1) := (blk_cell BK1301.out 1).trans rfl; have hfz18_0 := blk_frozen BK1301.out 0; have hfz18_1 := blk_frozen BK1301.out 1; have hcz19_0 : w16.cell? ⟨gb1302, 0, none⟩ = some (.int .i64 a1_0) := (blk_cell BK1302.out 0).trans rfl; have hcz19_1 : w16.cell? ⟨gb1302, 1, none⟩ = some (.int .i64 a1_1) := (blk_cell BK1302.out 1).trans rfl; have hfz19_0 := blk_frozen BK1302.out 0; have hfz19_1 := blk_frozen BK1302.out 1))
    go_ret
    exact ⟨by first | rfl | (simp [errW_none, errW_some] <;> rfl) | (simp [*, errW_none, errW_some] <;> rfl), by repeat (first | (with_reducible first | exact HB.out | apply below_alloc | apply pw_below_drewN | apply below_drew1 | refine below_set ?_ GE1301.out | refine below_set ?_ GE1302.out) | exact HB.out)⟩
end Go.Proofs.Ythlppjdlljofdaa.P
namespace Go.Proofs.Ythlppjdlljofdaa.P
open Go.RowKit Go.Proofs.YthlppjdlljofdaaW.PrintWords Go.Proofs.YthlppjdlljofdaaW.PrintLast Go.Proofs.YthlppjdlljofdaaW.PrintMore
attribute [local go_sem] max2_int min2_int max_two min_two max_three min_three max_four min_four   -- for this text's walks alone
set_option linter.unusedVariables false
set_option linter.unusedSimpArgs false

def laws_eqAskedS.l0 : Nat → List (S128) → List (S128) → Int → Option (Bool)
  | 0, _, _, _ => none
  | k + 1, x0, x1, x5 => if x5 < (x0.length : Int) then (if 0 ≤ x5 then (if x5 < (x1.length : Int) then ((laws_eqAsked.f ((rd_T128 x0 x5).f0) ((rd_T128 x0 x5).f1) ((rd_T128 x1 x5).f0) ((rd_T128 x1 x5).f1)).bind fun t1305 => (if t1305 = true then (laws_eqAskedS.l0 k x0 x1 (wrap64 (x5 + 1))) else (some false))) else (none)) else (none)) else (some true)

def laws_eqAskedS.f (k : Nat) (l0 : List (S128)) (l1 : List (S128)) : Option (Bool) := if (l0.length : Int) = (l1.length : Int) then (laws_eqAskedS.l0 k l0 l1 0) else (some false)

def laws_eqAskedS.T6 : Bool × List (List Nat × List Nat) := (true, [([], []), ([], []), ([0, 1], [0, 1]), ([2], [2]), ([], []), ([], []), ([4, 5], [4, 5]), ([6], [6]), ([3, 7], [3, 7]), ([8], [8])])

def laws_eqAskedS.B6 : List Nat := [0, 0, 3, 7, 0, 0, 48, 112, 255, 511]

theorem laws_eqAskedS.tab6 : rtab .any (opsOf Try.f67 6) = laws_eqAskedS.T6 := by kernel_rfl

theorem laws_eqAskedS.bits6 : waitsOk laws_eqAskedS.T6.2 laws_eqAskedS.B6 = true := by kernel_rfl

set_option maxHeartbeats 8000000 in
set_option maxRecDepth 100000 in
theorem laws_eqAskedS.calls (k : Nat) (A0 : Option Addr) (c0 : Nat) (l0 : List (S128)) (A1 : Option Addr) (c1 : Nat) (l1 : List (S128)) (r : Bool) (w : World) (hr0 : Kd.C k128 w A0 l0.length l0) (hc0 : l0.length ≤ c0) (hr1 : Kd.C k128 w A1 l1.length l1) (hc1 : l1.length ≤ c1) (h : laws_eqAskedS.f k l0 l1 = some r) :
    Calls Try.prog 67 #[.slice A0 l0.length c0, .slice A1 l1.length c1] w fun e w' => e = .returned (.bool r) ∧ Below w.heap.size w w' := by
  have hu128 := Try.underlying128
  have HR0 := Aside0.mk hr0
  have HC0 := Aside0.mk hc0
  clear hr0 hc0
  have HR1 := Aside0.mk hr1
  have HC1 := Aside0.mk hc1
  clear hr1 hc1
  have HB := Aside0.mk (Below.refl w.heap.size w)
  have H : (if (l0.length : Int) = (l1.length : Int) then (laws_eqAskedS.l0 k l0 l1 0) else (some false)) = some r := h
  clear h
  by_cases c3 : (l0.length : Int) = (l1.length : Int)
  · rw [if_pos c3] at H
    have c3b0 : ((l0.length : Int) == (l1.length : Int)) = true := beq_iff_eq.mpr c3
    have c3b1 : ((l0.length : Int) != (l1.length : Int)) = false := bne_eq_false_iff_eq.mpr c3
    have c3b2 : (l0.length == l1.length) = true := by first | simpa using c3 | (simp at c3 ⊢; omega)
    clear c3
    have H' := Aside0.mk H
    clear H
    go_enter Try.func67, Try.ntmps67
    go_wp2
    go_loopg [5] k (fun kq v5 w' => ∃ (x5_1 : Int), v5 = .int .i64 x5_1 ∧ Aside0 (laws_eqAskedS.l0 kq l0 l1 x5_1 = some r) ∧ Aside0 (kq ≤ k) ∧ Aside0 (Below w.heap.size w w'))
    case atStart => exact ⟨(0), (by first | rfl | (simp; done) | (simp [*]; done)), H', ⟨Nat.le_refl _⟩, ⟨by repeat (first | (with_reducible first | exact HB.out | apply below_alloc | apply pw_below_drewN | apply below_drew1) | exact HB.out)⟩⟩
    case round =>
      clear H'
      try clear c1
      try clear p2
      try clear c3
      try clear c3b0
      try clear c3b1
      try clear c3b2
      obtain ⟨x5_1, rfl, HA, HK1, HB⟩ := hrel
      cases gk with
      | zero => exact absurd HA.out (by simp [laws_eqAskedS.l0])
      | succ k1 =>
        have H := HA.out
        clear HA
        simp only [laws_eqAskedS.l0] at H
        by_cases c4 : x5_1 < (l0.length : Int)
        · rw [if_pos c4] at H
          have c4b0 : decide (x5_1 < (l0.length : Int)) = true := decide_eq_true c4
          clear c4
          by_cases c5 : 0 ≤ x5_1
          · rw [if_pos c5] at H
            have c5b0 : decide (0 ≤ x5_1) = true := decide_eq_true c5
            clear c5
            by_cases c6 : x5_1 < (l1.length : Int)
            · rw [if_pos c6] at H
              have c6b0 : decide (x5_1 < (l1.length : Int)) = true := decide_eq_true c6
              clear c6
              replace H := Option.bind_eq_some_iff.mp H
              obtain ⟨t1305, A70, H⟩ := H
              replace H : (if t1305 = true then (laws_eqAskedS.l0 k1 l0 l1 (wrap64 (x5_1 + 1))) else (some false)) = some r := H
              have A7 := Aside0.mk A70
              clear A70
              by_cases c8 : t1305 = true
              · subst c8
                have H1 : (laws_eqAskedS.l0 k1 l0 l1 (wrap64 (x5_1 + 1))) = some r := by rw [if_pos rfl] at H; exact H
                clear H
                have H := H1
                clear H1
                have H' := Aside0.mk H
                clear H
                try go_wp2
                have n0_ := Aside0.mk (below_drew1 HB.out)
                clear HB
                have HB := n0_
                clear n0_
                have p1303 : 0 ≤ (x5_1 : Int) := of_decide_eq_true (by first | (with_reducible assumption) | assumption)
                have q1303 : x5_1 < (l0.length : Int) := of_decide_eq_true (by first | (with_reducible assumption) | assumption)
                obtain ⟨ad1303, e1303, hx1303_0, hx1303_1⟩ := at_T128 HR0.out x5_1 p1303 q1303
                have hw1303_1 := hx1303_1
                have hw1303_0 := hx1303_0
                cases e1303
                replace hx1303_0 := (HB.out.cell (World.block_lt_of_cell? w _ hx1303_0)).trans hx1303_0
                replace hx1303_1 := (HB.out.cell (World.block_lt_of_cell? w _ hx1303_1)).trans hx1303_1
                replace p1303 := eq_true p1303
                replace q1303 := eq_true q1303
                have p1304 : 0 ≤ (x5_1 : Int) := of_decide_eq_true (by first | (with_reducible assumption) | assumption)
                have q1304 : x5_1 < (l1.length : Int) := of_decide_eq_true (by first | (with_reducible assumption) | assumption)
                obtain ⟨ad1304, e1304, hx1304_0, hx1304_1⟩ := at_T128 HR1.out x5_1 p1304 q1304
                have hw1304_1 := hx1304_1
                have hw1304_0 := hx1304_0
                cases e1304
                replace hx1304_0 := (HB.out.cell (World.block_lt_of_cell? w _ hx1304_0)).trans hx1304_0
                replace hx1304_1 := (HB.out.cell (World.block_lt_of_cell? w _ hx1304_1)).trans hx1304_1
                replace p1304 := eq_true p1304
                replace q1304 := eq_true q1304
                refine start_ (n := 10) (S := fun w' => w'.cell? (ad1303.add ((x5_1).toNat * 2)) = some (.int .i64 ((rd_T128 l0 x5_1).f0)) ∧ w'.cell? ⟨(ad1303.add ((x5_1).toNat * 2)).block, (ad1303.add ((x5_1).toNat * 2)).off + 1, none⟩ = some (.int .i64 ((rd_T128 l0 x5_1).f1)) ∧ w'.cell? (ad1304.add ((x5_1).toNat * 2)) = some (.int .i64 ((rd_T128 l1 x5_1).f0)) ∧ w'.cell? ⟨(ad1304.add ((x5_1).toNat * 2)).block, (ad1304.add ((x5_1).toNat * 2)).off + 1, none⟩ = some (.int .i64 ((rd_T128 l1 x5_1).f1))) (ds := []) #[false, false, false, false, false, false, false, false, false, false] (by kernel_rfl) rfl rfl ⟨((HB.out.cell (World.block_lt_of_cell? w _ hw1303_0)).trans hw1303_0), ((HB.out.cell (World.block_lt_of_cell? w _ hw1303_1)).trans hw1303_1), ((HB.out.cell (World.block_lt_of_cell? w _ hw1304_0)).trans hw1304_0), ((HB.out.cell (World.block_lt_of_cell? w _ hw1304_1)).trans hw1304_1)⟩ (fun hHeld => ?_); refine with_tabW laws_eqAskedS.tab6 laws_eqAskedS.bits6 (fun HT_ HW_ => ?_)
                generalize wr.drew = w9 at HB hx1303_0 hx1303_1 hx1304_0 hx1304_1 hHeld ⊢
                refine pure_ (i := 0) (N := some 17) (v := ?_) (a' := ?_) #[true, false, false, false, false, false, false, false, false, false] rfl rfl (any_of HT_.out (by kernel_rfl)) (fun _ _ _ h => h) (Or.inl ⟨by rfl, ?_⟩) ?_ ?_
                rotate_left
                · intro w'
                  go_simp
                  with_reducible rfl
                rotate_left
                · simp only [Act.put, List.setIfInBounds_toArray, List.set_cons_zero, List.set_cons_succ, i64_w, i32_w]
                  rfl
                refine pure_ (i := 1) (N := some 18) (v := ?_) (a' := ?_) #[true, true, false, false, false, false, false, false, false, false] rfl rfl (any_of HT_.out (by kernel_rfl)) (fun _ _ _ h => h) (Or.inl ⟨by rfl, ?_⟩) ?_ ?_
                rotate_left
                · intro w'
                  go_simp
                  with_reducible rfl
                rotate_left
                · simp only [Act.put, List.setIfInBounds_toArray, List.set_cons_zero, List.set_cons_succ, i64_w, i32_w]
                  rfl
                refine pure_ (i := 2) (N := some 19) (v := ?_) (a' := ?_) #[true, true, true, false, false, false, false, false, false, false] rfl rfl (any_of HT_.out (by kernel_rfl)) (fun _ _ _ h => h) (Or.inl ⟨by rfl, ?_⟩) ?_ ?_
                rotate_left
                · intro w'
                  go_simp
                  with_reducible rfl
                rotate_left
                · simp only [Act.put, List.setIfInBounds_toArray, List.set_cons_zero, List.set_cons_succ, i64_w, i32_w]
                  rfl
                refine pure_ (i := 4) (N := some 21) (v := ?_) (a' := ?_) #[true, true, true, false, true, false, false, false, false, false] rfl rfl (any_of HT_.out (by kernel_rfl)) (fun _ _ _ h => h) (Or.inl ⟨by rfl, ?_⟩) ?_ ?_
                rotate_left
                · intro w'
                  go_simp
                  with_reducible rfl
                rotate_left
                · simp only [Act.put, List.setIfInBounds_toArray, List.set_cons_zero, List.set_cons_succ, i64_w, i32_w]
                  rfl
                refine pure_ (i := 5) (N := some 22) (v := ?_) (a' := ?_) #[true, true, true, false, true, true, false, false, false, false] rfl rfl (any_of HT_.out (by kernel_rfl)) (fun _ _ _ h => h) (Or.inl ⟨by rfl, ?_⟩) ?_ ?_
                rotate_left
                · intro w'
                  go_simp
                  with_reducible rfl
                rotate_left
                · simp only [Act.put, List.setIfInBounds_toArray, List.set_cons_zero, List.set_cons_succ, i64_w, i32_w]
                  rfl
                refine pure_ (i := 6) (N := some 23) (v := ?_) (a' := ?_) #[true, true, true, false, true, true, true, false, false, false] rfl rfl (any_of HT_.out (by kernel_rfl)) (fun _ _ _ h => h) (Or.inl ⟨by rfl, ?_⟩) ?_ ?_
                rotate_left
                · intro w'
                  go_simp
                  with_reducible rfl
                rotate_left
                · simp only [Act.put, List.setIfInBounds_toArray, List.set_cons_zero, List.set_cons_succ, i64_w, i32_w]
                  rfl
                refine take_ (i := 3) (N := some 20) (v := ?_) (a' := ?_) #[true, true, true, true, true, true, true, false, false, false] rfl rfl (take_ofW HT_.out HW_.out (by kernel_rfl)) (fun _ _ _ h => h) (Or.inl ⟨by rfl, ?_⟩) hHeld ?_ ?_
                rotate_left
                · rintro w' ⟨s0, s1, s2, s3⟩
                  go_simp
                  with_reducible rfl
                rotate_left
                · simp only [Act.put, List.setIfInBounds_toArray, List.set_cons_zero, List.set_cons_succ, i64_w, i32_w]
                  rfl
                refine take_ (i := 7) (N := some 24) (v := ?_) (a' := ?_) #[true, true, true, true, true, true, true, true, false, false] rfl rfl (take_ofW HT_.out HW_.out (by kernel_rfl)) (fun _ _ _ h => h) (Or.inl ⟨by rfl, ?_⟩) hHeld ?_ ?_
                rotate_left
                · rintro w' ⟨s0, s1, s2, s3⟩
                  go_simp
                  with_reducible rfl
                rotate_left
                · simp only [Act.put, List.setIfInBounds_toArray, List.set_cons_zero, List.set_cons_succ, i64_w, i32_w]
                  rfl
                refine one_ (i := 8) (N := some 25) #[true, true, true, true, true, true, true, true, true, false] rfl rfl (one_of HT_.out (by kernel_rfl)) (by decide) (fun K hK => ?_)
                refine goes_ Try.func201 (by kernel_rfl) rfl #[.agg #[.int .i64 ((rd_T128 l0 x5_1).f0), .int .i64 ((rd_T128 l0 x5_1).f1)], .agg #[.int .i64 ((rd_T128 l1 x5_1).f0), .int .i64 ((rd_T128 l1 x5_1).f1)]] (by rfl) rfl rfl (by (try simp only [List.map_toArray, List.map_cons, List.map_nil]); first | done | rfl | (simp only [List.length_drop, List.length_take]; rfl)) ?_
                with_reducible refine (laws_eqAsked.calls ((rd_T128 l0 x5_1).f0) ((rd_T128 l0 x5_1).f1) ((rd_T128 l1 x5_1).f0) ((rd_T128 l1 x5_1).f1) true _ A7.out).mono ?_
                rintro e w10 ⟨rfl, hb⟩
                refine ⟨_, rfl, ?_⟩
                have n0_ := Aside0.mk (below_step (by repeat (first | (with_reducible first | exact HB.out | apply below_alloc | apply pw_below_drewN | apply below_drew1) | exact HB.out)) hb)
                clear HB
                have HB := n0_
                clear n0_
                (try clear hb)
                (try clear hb2)
                (try clear hk)
                (try clear hi)
                refine hK.out _ _ ⟨((HB.out.cell (World.block_lt_of_cell? w _ hw1303_0)).trans hw1303_0), ((HB.out.cell (World.block_lt_of_cell? w _ hw1303_1)).trans hw1303_1), ((HB.out.cell (World.block_lt_of_cell? w _ hw1304_0)).trans hw1304_0), ((HB.out.cell (World.block_lt_of_cell? w _ hw1304_1)).trans hw1304_1)⟩ (fun hHeld => ?_)
                clear hK K
                refine norm_ (a' := ?_) ?_ ?_
                rotate_left
                · show Act.put _ (some 25) _ = _
                  simp only [Act.put, List.setIfInBounds_toArray, List.set_cons_zero, List.set_cons_succ, i64_w, i32_w]
                  rfl
                refine pure_ (i := 9) (N := some 26) (v := ?_) (a' := ?_) #[true, true, true, true, true, true, true, true, true, true] rfl rfl (any_of HT_.out (by kernel_rfl)) (fun _ _ _ h => h) (Or.inl ⟨by rfl, ?_⟩) ?_ ?_
                rotate_left
                · intro w'
                  go_simp
                  with_reducible rfl
                rotate_left
                · simp only [Act.put, List.setIfInBounds_toArray, List.set_cons_zero, List.set_cons_succ, i64_w, i32_w]
                  rfl
                refine done_ (done_of HT_.out (by kernel_rfl)) ?_
                try go_wp2
                go_roundg k1
                case measure => have := HK1.out; omega
                case rel => exact ⟨(wrap64 (x5_1 + 1)), (by first | rfl | (simp; done) | (simp [*]; done)), H', ⟨by have := HK1.out; omega⟩, ⟨by repeat (first | (with_reducible first | exact HB.out | apply below_alloc | apply pw_below_drewN | apply below_drew1) | exact HB.out)⟩⟩
              · replace c8 := Bool.eq_false_iff.mpr c8
                subst c8
                have H1 : (some false) = some r := by rw [if_neg (show ¬ (false = true) by decide)] at H; exact H
                clear H
                have H := H1
                clear H1
                obtain rfl := Option.some.inj H
                try go_wp2
                have n0_ := Aside0.mk (below_drew1 HB.out)
                clear HB
                have HB := n0_
                clear n0_
                have p1303 : 0 ≤ (x5_1 : Int) := of_decide_eq_true (by first | (with_reducible assumption) | assumption)
                have q1303 : x5_1 < (l0.length : Int) := of_decide_eq_true (by first | (with_reducible assumption) | assumption)
                obtain ⟨ad1303, e1303, hx1303_0, hx1303_1⟩ := at_T128 HR0.out x5_1 p1303 q1303
                have hw1303_1 := hx1303_1
                have hw1303_0 := hx1303_0
                cases e1303
                replace hx1303_0 := (HB.out.cell (World.block_lt_of_cell? w _ hx1303_0)).trans hx1303_0
                replace hx1303_1 := (HB.out.cell (World.block_lt_of_cell? w _ hx1303_1)).trans hx1303_1
                replace p1303 := eq_true p1303
                replace q1303 := eq_true q1303
                have p1304 : 0 ≤ (x5_1 : Int) := of_decide_eq_true (by first | (with_reducible assumption) | assumption)
                have q1304 : x5_1 < (l1.length : Int) := of_decide_eq_true (by first | (with_reducible assumption) | assumption)
                obtain ⟨ad1304, e1304, hx1304_0, hx1304_1⟩ := at_T128 HR1.out x5_1 p1304 q1304
                have hw1304_1 := hx1304_1
                have hw1304_0 := hx1304_0
                cases e1304
                replace hx1304_0 := (HB.out.cell (World.block_lt_of_cell? w _ hx1304_0)).trans hx1304_0
                replace hx1304_1 := (HB.out.cell (World.block_lt_of_cell? w _ hx1304_1)).trans hx1304_1
                replace p1304 := eq_true p1304
                replace q1304 := eq_true q1304
                refine start_ (n := 10) (S := fun w' => w'.cell? (ad1303.add ((x5_1).toNat * 2)) = some (.int .i64 ((rd_T128 l0 x5_1).f0)) ∧ w'.cell? ⟨(ad1303.add ((x5_1).toNat * 2)).block, (ad1303.add ((x5_1).toNat * 2)).off + 1, none⟩ = some (.int .i64 ((rd_T128 l0 x5_1).f1)) ∧ w'.cell? (ad1304.add ((x5_1).toNat * 2)) = some (.int .i64 ((rd_T128 l1 x5_1).f0)) ∧ w'.cell? ⟨(ad1304.add ((x5_1).toNat * 2)).block, (ad1304.add ((x5_1).toNat * 2)).off + 1, none⟩ = some (.int .i64 ((rd_T128 l1 x5_1).f1))) (ds := []) #[false, false, false, false, false, false, false, false, false, false] (by kernel_rfl) rfl rfl ⟨((HB.out.cell (World.block_lt_of_cell? w _ hw1303_0)).trans hw1303_0), ((HB.out.cell (World.block_lt_of_cell? w _ hw1303_1)).trans hw1303_1), ((HB.out.cell (World.block_lt_of_cell? w _ hw1304_0)).trans hw1304_0), ((HB.out.cell (World.block_lt_of_cell? w _ hw1304_1)).trans hw1304_1)⟩ (fun hHeld => ?_); refine with_tabW laws_eqAskedS.tab6 laws_eqAskedS.bits6 (fun HT_ HW_ => ?_)
                generalize wr.drew = w11 at HB hx1303_0 hx1303_1 hx1304_0 hx1304_1 hHeld ⊢
                refine pure_ (i := 0) (N := some 17) (v := ?_) (a' := ?_) #[true, false, false, false, false, false, false, false, false, false] rfl rfl (any_of HT_.out (by kernel_rfl)) (fun _ _ _ h => h) (Or.inl ⟨by rfl, ?_⟩) ?_ ?_
                rotate_left
                · intro w'
                  go_simp
                  with_reducible rfl
                rotate_left
                · simp only [Act.put, List.setIfInBounds_toArray, List.set_cons_zero, List.set_cons_succ, i64_w, i32_w]
                  rfl
                refine pure_ (i := 1) (N := some 18) (v := ?_) (a' := ?_) #[true, true, false, false, false, false, false, false, false, false] rfl rfl (any_of HT_.out (by kernel_rfl)) (fun _ _ _ h => h) (Or.inl ⟨by rfl, ?_⟩) ?_ ?_
                rotate_left
                · intro w'
                  go_simp
                  with_reducible rfl
                rotate_left
                · simp only [Act.put, List.setIfInBounds_toArray, List.set_cons_zero, List.set_cons_succ, i64_w, i32_w]
                  rfl
                refine pure_ (i := 2) (N := some 19) (v := ?_) (a' := ?_) #[true, true, true, false, false, false, false, false, false, false] rfl rfl (any_of HT_.out (by kernel_rfl)) (fun _ _ _ h => h) (Or.inl ⟨by rfl, ?_⟩) ?_ ?_
                rotate_left
                · intro w'
                  go_simp
                  with_reducible rfl
                rotate_left
                · simp only [Act.put, List.setIfInBounds_toArray, List.set_cons_zero, List.set_cons_succ, i64_w, i32_w]
                  rfl
                refine pure_ (i := 4) (N := some 21) (v := ?_) (a' := ?_) #[true, true, true, false, true, false, false, false, false, false] rfl rfl (any_of HT_.out (by kernel_rfl)) (fun _ _ _ h => h) (Or.inl ⟨by rfl, ?_⟩) ?_ ?_
                rotate_left
                · intro w'
                  go_simp
                  with_reducible rfl
                rotate_left
                · simp only [Act.put, List.setIfInBounds_toArray, List.set_cons_zero, List.set_cons_succ, i64_w, i32_w]
                  rfl
                refine pure_ (i := 5) (N := some 22) (v := ?_) (a' := ?_) #[true, true, true, false, true, true, false, false, false, false] rfl rfl (any_of HT_.out (by kernel_rfl)) (fun _ _ _ h => h) (Or.inl ⟨by rfl, ?_⟩) ?_ ?_
                rotate_left
                · intro w'
                  go_simp
                  with_reducible rfl
                rotate_left
                · simp only [Act.put, List.setIfInBounds_toArray, List.set_cons_zero, List.set_cons_succ, i64_w, i32_w]
                  rfl
                refine pure_ (i := 6) (N := some 23) (v := ?_) (a' := ?_) #[true, true, true, false, true, true, true, false, false, false] rfl rfl (any_of HT_.out (by kernel_rfl)) (fun _ _ _ h => h) (Or.inl ⟨by rfl, ?_⟩) ?_ ?_
                rotate_left
                · intro w'
                  go_simp
                  with_reducible rfl
                rotate_left
                · simp only [Act.put, List.setIfInBounds_toArray, List.set_cons_zero, List.set_cons_succ, i64_w, i32_w]
                  rfl
                refine take_ (i := 3) (N := some 20) (v := ?_) (a' := ?_) #[true, true, true, true, true, true, true, false, false, false] rfl rfl (take_ofW HT_.out HW_.out (by kernel_rfl)) (fun _ _ _ h => h) (Or.inl ⟨by rfl, ?_⟩) hHeld ?_ ?_
                rotate_left
                · rintro w' ⟨s0, s1, s2, s3⟩
                  go_simp
                  with_reducible rfl
                rotate_left
                · simp only [Act.put, List.setIfInBounds_toArray, List.set_cons_zero, List.set_cons_succ, i64_w, i32_w]
                  rfl
                refine take_ (i := 7) (N := some 24) (v := ?_) (a' := ?_) #[true, true, true, true, true, true, true, true, false, false] rfl rfl (take_ofW HT_.out HW_.out (by kernel_rfl)) (fun _ _ _ h => h) (Or.inl ⟨by rfl, ?_⟩) hHeld ?_ ?_
                rotate_left
                · rintro w' ⟨s0, s1, s2, s3⟩
                  go_simp
                  with_reducible rfl
                rotate_left
                · simp only [Act.put, List.setIfInBounds_toArray, List.set_cons_zero, List.set_cons_succ, i64_w, i32_w]
                  rfl
                refine one_ (i := 8) (N := some 25) #[true, true, true, true, true, true, true, true, true, false] rfl rfl (one_of HT_.out (by kernel_rfl)) (by decide) (fun K hK => ?_)
                refine goes_ Try.func201 (by kernel_rfl) rfl #[.agg #[.int .i64 ((rd_T128 l0 x5_1).f0), .int .i64 ((rd_T128 l0 x5_1).f1)], .agg #[.int .i64 ((rd_T128 l1 x5_1).f0), .int .i64 ((rd_T128 l1 x5_1).f1)]] (by rfl) rfl rfl (by (try simp only [List.map_toArray, List.map_cons, List.map_nil]); first | done | rfl | (simp only [List.length_drop, List.length_take]; rfl)) ?_
                with_reducible refine (laws_eqAsked.calls ((rd_T128 l0 x5_1).f0) ((rd_T128 l0 x5_1).f1) ((rd_T128 l1 x5_1).f0) ((rd_T128 l1 x5_1).f1) false _ A7.out).mono ?_
                rintro e w12 ⟨rfl, hb⟩
                refine ⟨_, rfl, ?_⟩
                have n0_ := Aside0.mk (below_step (by repeat (first | (with_reducible first | exact HB.out | apply below_alloc | apply pw_below_drewN | apply below_drew1) | exact HB.out)) hb)
                clear HB
                have HB := n0_
                clear n0_
                (try clear hb)
                (try clear hb2)
                (try clear hk)
                (try clear hi)
                refine hK.out _ _ ⟨((HB.out.cell (World.block_lt_of_cell? w _ hw1303_0)).trans hw1303_0), ((HB.out.cell (World.block_lt_of_cell? w _ hw1303_1)).trans hw1303_1), ((HB.out.cell (World.block_lt_of_cell? w _ hw1304_0)).trans hw1304_0), ((HB.out.cell (World.block_lt_of_cell? w _ hw1304_1)).trans hw1304_1)⟩ (fun hHeld => ?_)
                clear hK K
                refine norm_ (a' := ?_) ?_ ?_
                rotate_left
                · show Act.put _ (some 25) _ = _
                  simp only [Act.put, List.setIfInBounds_toArray, List.set_cons_zero, List.set_cons_succ, i64_w, i32_w]
                  rfl
                refine pure_ (i := 9) (N := some 26) (v := ?_) (a' := ?_) #[true, true, true, true, true, true, true, true, true, true] rfl rfl (any_of HT_.out (by kernel_rfl)) (fun _ _ _ h => h) (Or.inl ⟨by rfl, ?_⟩) ?_ ?_
                rotate_left
                · intro w'
                  go_simp
                  with_reducible rfl
                rotate_left
                · simp only [Act.put, List.setIfInBounds_toArray, List.set_cons_zero, List.set_cons_succ, i64_w, i32_w]
                  rfl
                refine done_ (done_of HT_.out (by kernel_rfl)) ?_
                try go_wp2
                go_ret
                exact ⟨by first | rfl | (simp [errW_none, errW_some] <;> rfl) | (simp [*, errW_none, errW_some] <;> rfl), by repeat (first | (with_reducible first | exact HB.out | apply below_alloc | apply pw_below_drewN | apply below_drew1) | exact HB.out)⟩
            · rw [if_neg c6] at H
              exact absurd H (by simp)
          · rw [if_neg c5] at H
            exact absurd H (by simp)
        · rw [if_neg c4] at H
          have c4b0 : decide (x5_1 < (l0.length : Int)) = false := decide_eq_false c4
          clear c4
          obtain rfl := Option.some.inj H
          go_wp2
          go_ret
          exact ⟨by first | rfl | (simp [errW_none, errW_some] <;> rfl) | (simp [*, errW_none, errW_some] <;> rfl), by repeat (first | (with_reducible first | exact HB.out | apply below_alloc | apply pw_below_drewN | apply below_drew1) | exact HB.out)⟩
  · rw [if_neg c3] at H
    have c3b0 : ((l0.length : Int) == (l1.length : Int)) = false := beq_eq_false_iff_ne.mpr c3
    have c3b1 : ((l0.length : Int) != (l1.length : Int)) = true := bne_iff_ne.mpr c3
    have c3b2 : (l0.length == l1.length) = false := by first | simpa using c3 | (simp at c3 ⊢; omega)
    obtain rfl := Option.some.inj H
    go_enter Try.func67, Try.ntmps67
    go_wp2
    go_ret
    exact ⟨by first | rfl | (simp [errW_none, errW_some] <;> rfl) | (simp [*, errW_none, errW_some] <;> rfl), by repeat (first | (with_reducible first | exact HB.out | apply below_alloc | apply pw_below_drewN | apply below_drew1) | exact HB.out)⟩
end Go.Proofs.Ythlppjdlljofdaa.P
namespace Go.Proofs.Ythlppjdlljofdaa.P
open Go.RowKit Go.Proofs.YthlppjdlljofdaaW.PrintWords Go.Proofs.YthlppjdlljofdaaW.PrintLast Go.Proofs.YthlppjdlljofdaaW.PrintMore
set_option linter.unusedVariables false
set_option linter.unusedSimpArgs false

set_option maxHeartbeats 8000000 in
set_option maxRecDepth 100000 in
theorem FnExactLostBytes.walk (k : Nat) (A0_0 : Option Addr) (c0_0 : Nat) (l0_0 : List (List Int)) (a0_1 : Int) (a0_2 : Int) (a0_3 : Int) (a0_4 : Int) (a0_5 : Int) (A0_6 : Option Addr) (c0_6 : Nat) (l0_6 : List Int) (A1 : Option Addr) (c1 : Nat) (l1 : List S125) (r5 : Int) (r9 : Int) (r21 : List (List Int)) (r22 : Int) (r23 : Int) (r24 : Int) (r25 : Int) (r26 : Int) (r27 : List Int) (r37 : List S128) (r44 : Int) (r45 : Bool) (w : World) (HR0_0 : Kd.C (Kd.slice 5 (Kd.int .u8)) w A0_0 l0_0.length l0_0) (HC0_0 : l0_0.length ≤ c0_0) (HR0_6 : Kd.C (Kd.int .i64) w A0_6 l0_6.length l0_6) (HC0_6 : l0_6.length ≤ c0_6) (HR1 : Kd.C k125 w A1 l1.length l1) (HC1 : l1.length ≤ c1) (e6 : laws_szArena.f k l0_0 a0_1 a0_2 a0_3 a0_4 a0_5 l0_6 1048576 = some r5) (n_r5 : ¬ r5 < 0) (e10 : laws_szAskedS.f l1 r5 = some r9) (n_r9 : ¬ r9 < 0) (e28 : laws_toArena.f k l0_0 a0_1 a0_2 a0_3 a0_4 a0_5 l0_6 = some (r21, r22, r23, r24, r25, r26, r27)) (e38 : laws_toAskedS.f k l1 = some r37) (e46 : spec_LostBytes.f k r21 r22 r23 r24 r25 r26 r27 r37 = some (r44, r45)) (e81 : impl_LostBytes.f k r21 r22 r23 r24 r25 r26 r27 r37 = some (r44, r45)) (e94 : laws_eqArena.f k r21 r22 r23 r24 r25 r26 r27 r21 r22 r23 r24 r25 r26 r27 = some true) (e102 : laws_eqAskedS.f k r37 r37 = some true) :
    Calls Try.prog 7 #[.agg #[.slice A0_0 l0_0.length c0_0, .int .i64 a0_1, .int .i64 a0_2, .int .i64 a0_3, .int .i64 a0_4, .int .i64 a0_5, .slice A0_6 l0_6.length c0_6], .slice A1 l1.length c1] w fun e w' => e = .returned (.bool true) ∧ Below w.heap.size w w' := by
  have hu29 := Try.underlying29
  have hu34 := Try.underlying34
  replace HR0_0 := Aside0.mk HR0_0
  replace HC0_0 := Aside0.mk HC0_0
  replace HR0_6 := Aside0.mk HR0_6
  replace HC0_6 := Aside0.mk HC0_6
  replace HR1 := Aside0.mk HR1
  replace HC1 := Aside0.mk HC1
  replace e6 := Aside0.mk e6
  replace n_r5 := decide_eq_false n_r5
  replace e10 := Aside0.mk e10
  replace n_r9 := decide_eq_false n_r9
  replace e28 := Aside0.mk e28
  replace e38 := Aside0.mk e38
  replace e46 := Aside0.mk e46
  replace e81 := Aside0.mk e81
  replace e94 := Aside0.mk e94
  replace e102 := Aside0.mk e102
  have HB := Aside0.mk (Below.refl w.heap.size w)
  go_enter Try.func7, Try.ntmps7
  go_wp2_with fail
  have HA2 := Below.alloc (Below.refl w.heap.size w) (Nat.le_refl _) (.cells #[.slice A0_0 l0_0.length c0_0, .int .i64 a0_1, .int .i64 a0_2, .int .i64 a0_3, .int .i64 a0_4, .int .i64 a0_5, .slice A0_6 l0_6.length c0_6] 29)
  have BK1 := Aside0.mk (heap_alloc_new w (.cells #[.slice A0_0 l0_0.length c0_0, .int .i64 a0_1, .int .i64 a0_2, .int .i64 a0_3, .int .i64 a0_4, .int .i64 a0_5, .slice A0_6 l0_6.length c0_6] 29))
  replace HB := Aside0.mk (below_step HB.out HA2)
  have Z3 := Aside0.mk (show w.heap.size < (w.alloc (.cells #[.slice A0_0 l0_0.length c0_0, .int .i64 a0_1, .int .i64 a0_2, .int .i64 a0_3, .int .i64 a0_4, .int .i64 a0_5, .slice A0_6 l0_6.length c0_6] 29)).heap.size by simp)
  clear HA2
  refine (laws_szArena.calls k A0_0 c0_0 l0_0 a0_1 a0_2 a0_3 a0_4 a0_5 A0_6 c0_6 l0_6 1048576 r5 (w.alloc (.cells #[.slice A0_0 l0_0.length c0_0, .int .i64 a0_1, .int .i64 a0_2, .int .i64 a0_3, .int .i64 a0_4, .int .i64 a0_5, .slice A0_6 l0_6.length c0_6] 29)) (Kd.C_below HR0_0.out HB.out) HC0_0.out (Kd.C_below HR0_6.out HB.out) HC0_6.out e6.out).mono ?_
  rintro e w4 ⟨rfl, hb⟩
  replace BK1 := Aside0.mk (blk_below BK1.out hb)
  have Z7 := Aside0.mk (below_size hb)
  replace HB := Aside0.mk (below_step HB.out hb)
  clear hb 
  go_wp2_with fail
  refine (laws_szAskedS.calls A1 c1 l1 r5 r9 w4 (Kd.C_below HR1.out HB.out) HC1.out e10.out).mono ?_
  rintro e w8 ⟨rfl, hb⟩
  replace hb := Drawn0.below hb
  replace BK1 := Aside0.mk (blk_below BK1.out hb)
  have Z11 := Aside0.mk (below_size hb)
  replace HB := Aside0.mk (below_step HB.out hb)
  clear hb 
  have hz12 : w8.cell? ⟨w.heap.size, 0, none⟩ = some (.slice A0_0 l0_0.length c0_0) := (blk_cell BK1.out 0).trans rfl
  have hz13 : w8.cell? ⟨w.heap.size, 1, none⟩ = some (.int .i64 a0_1) := (blk_cell BK1.out 1).trans rfl
  have hz14 : w8.cell? ⟨w.heap.size, 2, none⟩ = some (.int .i64 a0_2) := (blk_cell BK1.out 2).trans rfl
  have hz15 : w8.cell? ⟨w.heap.size, 3, none⟩ = some (.int .i64 a0_3) := (blk_cell BK1.out 3).trans rfl
  have hz16 : w8.cell? ⟨w.heap.size, 4, none⟩ = some (.int .i64 a0_4) := (blk_cell BK1.out 4).trans rfl
  have hz17 : w8.cell? ⟨w.heap.size, 5, none⟩ = some (.int .i64 a0_5) := (blk_cell BK1.out 5).trans rfl
  have hz18 : w8.cell? ⟨w.heap.size, 6, none⟩ = some (.slice A0_6 l0_6.length c0_6) := (blk_cell BK1.out 6).trans rfl
  have hl19 : w.heap.size < w8.heap.size := blk_lt BK1.out
  go_wp2_with fail
  clear hz12 hz13 hz14 hz15 hz16 hz17 hz18 hl19
  refine (laws_toArena.calls k A0_0 c0_0 l0_0 a0_1 a0_2 a0_3 a0_4 a0_5 A0_6 c0_6 l0_6 r21 r22 r23 r24 r25 r26 r27 w8 (Kd.C_below HR0_0.out HB.out) HC0_0.out (Kd.C_below HR0_6.out HB.out) HC0_6.out e28.out).mono ?_
  rintro e w20 ⟨v0_w20, v6_w20, rfl, h0_w20, h6_w20, hb⟩
  replace BK1 := Aside0.mk (blk_below BK1.out hb)
  obtain ⟨A29, c30, rfl⟩ := Kd.S_slice h0_w20
  have O31 := Aside0.mk (show Kd.S (Kd.slice 5 (Kd.int .u8)) 62 w20 w.heap.size (Seg w8.heap.size w20.heap.size w20 [62, 5]) (.slice A29 r21.length c30) r21 from Kd.S_lower (Kd.S_mono (Kd.S_bound h0_w20) (fun k_ hk => ⟨hk.2.1, hk.2.2.1, hk.2.2.2⟩)) (below_size HB.out))
  obtain ⟨A32, c33, rfl⟩ := Kd.R_slice h6_w20
  have O34 := Aside0.mk (show Kd.R (Kd.int .i64) 3 w20 w.heap.size (Seg w8.heap.size w20.heap.size w20 [3]) (.slice A32 r27.length c33) r27 from Kd.R_lower (Kd.R_mono (Kd.R_bound h6_w20) (fun k_ hk => ⟨hk.2.1, hk.2.2.1, hk.2.2.2⟩)) (below_size HB.out))
  have Z35 := Aside0.mk (below_size hb)
  replace HB := Aside0.mk (below_step HB.out hb)
  clear hb h0_w20 h6_w20
  go_wp2_with fail
  refine (laws_toAskedS.calls k A1 c1 l1 r37 w20 (Kd.C_below HR1.out HB.out) HC1.out e38.out).mono ?_
  rintro e w36 ⟨v0_w36, rfl, h0_w36, hb⟩
  replace BK1 := Aside0.mk (blk_below BK1.out hb)
  replace O31 := Aside0.mk (Kd.S_below O31.out hb)
  replace O34 := Aside0.mk (Kd.R_below O34.out hb)
  obtain ⟨A39, c40, rfl⟩ := Kd.R_slice h0_w36
  have O41 := Aside0.mk (show Kd.R k128 128 w36 w.heap.size (Seg w20.heap.size w36.heap.size w36 [128]) (.slice A39 r37.length c40) r37 from Kd.R_lower (Kd.R_mono (Kd.R_bound h0_w36) (fun k_ hk => ⟨hk.2.1, hk.2.2.1, hk.2.2.2⟩)) (below_size HB.out))
  have Z42 := Aside0.mk (below_size hb)
  replace HB := Aside0.mk (below_step HB.out hb)
  clear hb h0_w36
  go_wp2_with fail
  refine (spec_LostBytes.calls k A29 c30 r21 r22 r23 r24 r25 r26 A32 c33 r27 A39 c40 r37 r44 r45 w36 (Kd.S_reads' O31.out).2.2 (Kd.S_reads' O31.out).2.1 (Kd.R_reads' O34.out).2.2 (Kd.R_reads' O34.out).2.1 (Kd.R_reads' O41.out).2.2 (Kd.R_reads' O41.out).2.1 e46.out).mono ?_
  rintro e w43 ⟨rfl, hb⟩
  replace BK1 := Aside0.mk (blk_below BK1.out hb)
  replace O31 := Aside0.mk (Kd.S_below O31.out hb)
  replace O34 := Aside0.mk (Kd.R_below O34.out hb)
  replace O41 := Aside0.mk (Kd.R_below O41.out hb)
  have Z47 := Aside0.mk (below_size hb)
  replace HB := Aside0.mk (below_step HB.out hb)
  clear hb 
  clear O31 O34 O41
  have hz48 : w43.cell? ⟨w.heap.size, 0, none⟩ = some (.slice A0_0 l0_0.length c0_0) := (blk_cell BK1.out 0).trans rfl
  have hz49 : w43.cell? ⟨w.heap.size, 1, none⟩ = some (.int .i64 a0_1) := (blk_cell BK1.out 1).trans rfl
  have hz50 : w43.cell? ⟨w.heap.size, 2, none⟩ = some (.int .i64 a0_2) := (blk_cell BK1.out 2).trans rfl
  have hz51 : w43.cell? ⟨w.heap.size, 3, none⟩ = some (.int .i64 a0_3) := (blk_cell BK1.out 3).trans rfl
  have hz52 : w43.cell? ⟨w.heap.size, 4, none⟩ = some (.int .i64 a0_4) := (blk_cell BK1.out 4).trans rfl
  have hz53 : w43.cell? ⟨w.heap.size, 5, none⟩ = some (.int .i64 a0_5) := (blk_cell BK1.out 5).trans rfl
  have hz54 : w43.cell? ⟨w.heap.size, 6, none⟩ = some (.slice A0_6 l0_6.length c0_6) := (blk_cell BK1.out 6).trans rfl
  have hl55 : w.heap.size < w43.heap.size := blk_lt BK1.out
  go_wp2_with fail
  clear hz48 hz49 hz50 hz51 hz52 hz53 hz54 hl55
  refine (laws_toArena.calls k A0_0 c0_0 l0_0 a0_1 a0_2 a0_3 a0_4 a0_5 A0_6 c0_6 l0_6 r21 r22 r23 r24 r25 r26 r27 w43 (Kd.C_below HR0_0.out HB.out) HC0_0.out (Kd.C_below HR0_6.out HB.out) HC0_6.out e28.out).mono ?_
  rintro e w56 ⟨v0_w56, v6_w56, rfl, h0_w56, h6_w56, hb⟩
  replace BK1 := Aside0.mk (blk_below BK1.out hb)
  obtain ⟨A57, c58, rfl⟩ := Kd.S_slice h0_w56
  have O59 := Aside0.mk (show Kd.S (Kd.slice 5 (Kd.int .u8)) 62 w56 w.heap.size (Seg w43.heap.size w56.heap.size w56 [62, 5]) (.slice A57 r21.length c58) r21 from Kd.S_lower (Kd.S_mono (Kd.S_bound h0_w56) (fun k_ hk => ⟨hk.2.1, hk.2.2.1, hk.2.2.2⟩)) (below_size HB.out))
  obtain ⟨A60, c61, rfl⟩ := Kd.R_slice h6_w56
  have O62 := Aside0.mk (show Kd.R (Kd.int .i64) 3 w56 w.heap.size (Seg w43.heap.size w56.heap.size w56 [3]) (.slice A60 r27.length c61) r27 from Kd.R_lower (Kd.R_mono (Kd.R_bound h6_w56) (fun k_ hk => ⟨hk.2.1, hk.2.2.1, hk.2.2.2⟩)) (below_size HB.out))
  have Z63 := Aside0.mk (below_size hb)
  replace HB := Aside0.mk (below_step HB.out hb)
  clear hb h0_w56 h6_w56
  go_wp2_with fail
  have HA65 := Below.alloc (Below.refl w56.heap.size w56) (Nat.le_refl _) (.cells #[.slice A57 r21.length c58, .int .i64 r22, .int .i64 r23, .int .i64 r24, .int .i64 r25, .int .i64 r26, .slice A60 r27.length c61] 34)
  replace BK1 := Aside0.mk (blk_below BK1.out HA65)
  replace O59 := Aside0.mk (Kd.S_below O59.out HA65)
  replace O62 := Aside0.mk (Kd.R_below O62.out HA65)
  have BK64 := Aside0.mk (heap_alloc_new w56 (.cells #[.slice A57 r21.length c58, .int .i64 r22, .int .i64 r23, .int .i64 r24, .int .i64 r25, .int .i64 r26, .slice A60 r27.length c61] 34))
  replace HB := Aside0.mk (below_step HB.out HA65)
  have Z66 := Aside0.mk (show w56.heap.size < (w56.alloc (.cells #[.slice A57 r21.length c58, .int .i64 r22, .int .i64 r23, .int .i64 r24, .int .i64 r25, .int .i64 r26, .slice A60 r27.length c61] 34)).heap.size by simp)
  clear HA65
  refine (laws_toAskedS.calls k A1 c1 l1 r37 (w56.alloc (.cells #[.slice A57 r21.length c58, .int .i64 r22, .int .i64 r23, .int .i64 r24, .int .i64 r25, .int .i64 r26, .slice A60 r27.length c61] 34)) (Kd.C_below HR1.out HB.out) HC1.out e38.out).mono ?_
  rintro e w67 ⟨v0_w67, rfl, h0_w67, hb⟩
  replace BK1 := Aside0.mk (blk_below BK1.out hb)
  replace O59 := Aside0.mk (Kd.S_below O59.out hb)
  replace O62 := Aside0.mk (Kd.R_below O62.out hb)
  replace BK64 := Aside0.mk (blk_below BK64.out hb)
  obtain ⟨A68, c69, rfl⟩ := Kd.R_slice h0_w67
  have O70 := Aside0.mk (show Kd.R k128 128 w67 w.heap.size (Seg (w56.heap.size + 1) w67.heap.size w67 [128]) (.slice A68 r37.length c69) r37 from Kd.R_lower (Kd.R_mono (Kd.R_bound h0_w67) (fun k_ hk => ⟨(by simpa using hk.2.1), hk.2.2.1, hk.2.2.2⟩)) (below_size HB.out))
  have Z71 := Aside0.mk (below_size hb)
  replace HB := Aside0.mk (below_step HB.out hb)
  clear hb h0_w67
  have hz72 : w67.cell? ⟨w56.heap.size, 0, none⟩ = some (.slice A57 r21.length c58) := (blk_cell BK64.out 0).trans rfl
  have hz73 : w67.cell? ⟨w56.heap.size, 1, none⟩ = some (.int .i64 r22) := (blk_cell BK64.out 1).trans rfl
  have hz74 : w67.cell? ⟨w56.heap.size, 2, none⟩ = some (.int .i64 r23) := (blk_cell BK64.out 2).trans rfl
  have hz75 : w67.cell? ⟨w56.heap.size, 3, none⟩ = some (.int .i64 r24) := (blk_cell BK64.out 3).trans rfl
  have hz76 : w67.cell? ⟨w56.heap.size, 4, none⟩ = some (.int .i64 r25) := (blk_cell BK64.out 4).trans rfl
  have hz77 : w67.cell? ⟨w56.heap.size, 5, none⟩ = some (.int .i64 r26) := (blk_cell BK64.out 5).trans rfl
  have hz78 : w67.cell? ⟨w56.heap.size, 6, none⟩ = some (.slice A60 r27.length c61) := (blk_cell BK64.out 6).trans rfl
  have hl79 : w56.heap.size < w67.heap.size := blk_lt BK64.out
  go_wp2_with fail
  clear hz72 hz73 hz74 hz75 hz76 hz77 hz78 hl79
  refine (impl_LostBytes.calls k A57 c58 r21 r22 r23 r24 r25 r26 A60 c61 r27 A68 c69 r37 r44 r45 w67 (Kd.S_reads' O59.out).2.2 (Kd.S_reads' O59.out).2.1 (Kd.R_reads' O62.out).2.2 (Kd.R_reads' O62.out).2.1 (Kd.R_reads' O70.out).2.2 (Kd.R_reads' O70.out).2.1 e81.out).mono ?_
  rintro e w80 ⟨rfl, hb⟩
  replace BK1 := Aside0.mk (blk_below BK1.out hb)
  replace O59 := Aside0.mk (Kd.S_below O59.out hb)
  replace O62 := Aside0.mk (Kd.R_below O62.out hb)
  replace BK64 := Aside0.mk (blk_below BK64.out hb)
  replace O70 := Aside0.mk (Kd.R_below O70.out hb)
  have Z82 := Aside0.mk (below_size hb)
  replace HB := Aside0.mk (below_step HB.out hb)
  clear hb 
  go_wp2_with fail
  refine start_ (n := 5) (S := fun w' => w'.cell? ⟨w56.heap.size, 0, none⟩ = some (.slice A57 r21.length c58) ∧ w'.cell? ⟨w56.heap.size, 1, none⟩ = some (.int .i64 r22) ∧ w'.cell? ⟨w56.heap.size, 2, none⟩ = some (.int .i64 r23) ∧ w'.cell? ⟨w56.heap.size, 3, none⟩ = some (.int .i64 r24) ∧ w'.cell? ⟨w56.heap.size, 4, none⟩ = some (.int .i64 r25) ∧ w'.cell? ⟨w56.heap.size, 5, none⟩ = some (.int .i64 r26) ∧ w'.cell? ⟨w56.heap.size, 6, none⟩ = some (.slice A60 r27.length c61) ∧ w'.cell? ⟨w.heap.size, 0, none⟩ = some (.slice A0_0 l0_0.length c0_0) ∧ w'.cell? ⟨w.heap.size, 1, none⟩ = some (.int .i64 a0_1) ∧ w'.cell? ⟨w.heap.size, 2, none⟩ = some (.int .i64 a0_2) ∧ w'.cell? ⟨w.heap.size, 3, none⟩ = some (.int .i64 a0_3) ∧ w'.cell? ⟨w.heap.size, 4, none⟩ = some (.int .i64 a0_4) ∧ w'.cell? ⟨w.heap.size, 5, none⟩ = some (.int .i64 a0_5) ∧ w'.cell? ⟨w.heap.size, 6, none⟩ = some (.slice A0_6 l0_6.length c0_6)) (ds := []) #[false, false, false, false, false] (by kernel_rfl) rfl rfl ⟨(blk_cell BK64.out 0).trans rfl, (blk_cell BK64.out 1).trans rfl, (blk_cell BK64.out 2).trans rfl, (blk_cell BK64.out 3).trans rfl, (blk_cell BK64.out 4).trans rfl, (blk_cell BK64.out 5).trans rfl, (blk_cell BK64.out 6).trans rfl, (blk_cell BK1.out 0).trans rfl, (blk_cell BK1.out 1).trans rfl, (blk_cell BK1.out 2).trans rfl, (blk_cell BK1.out 3).trans rfl, (blk_cell BK1.out 4).trans rfl, (blk_cell BK1.out 5).trans rfl, (blk_cell BK1.out 6).trans rfl⟩ (fun hHeld => ?_)
  replace BK1 := Aside0.mk (blk_drew BK1.out)
  replace O59 := Aside0.mk (Kd.S_drew O59.out)
  replace O62 := Aside0.mk (Kd.R_drew O62.out)
  replace BK64 := Aside0.mk (blk_drew BK64.out)
  replace O70 := Aside0.mk (Kd.R_drew O70.out)
  replace HB := Aside0.mk (below_drew1 HB.out)
  have Z84 := Aside0.mk (show w80.heap.size ≤ w80.drew.heap.size from Nat.le_refl _)
  generalize w80.drew = w83 at BK1 O59 O62 BK64 O70 HB Z84 hHeld ⊢
  refine take_ (i := 0) (N := some 48) (v := ?_) (a' := ?_) #[true, false, false, false, false] rfl rfl (by kernel_rfl) (fun _ _ _ h => h) (Or.inl ⟨by rfl, ?_⟩) hHeld ?_ ?_
  rotate_left
  · rintro w' ⟨s0, s1, s2, s3, s4, s5, s6, s7, s8, s9, s10, s11, s12, s13⟩
    go_simp
    with_reducible rfl
  rotate_left
  · simp only [Act.put, List.setIfInBounds_toArray, List.set_cons_zero, List.set_cons_succ, i64_w, i32_w]
    rfl
  refine take_ (i := 1) (N := some 49) (v := ?_) (a' := ?_) #[true, true, false, false, false] rfl rfl (by kernel_rfl) (fun _ _ _ h => h) (Or.inl ⟨by rfl, ?_⟩) hHeld ?_ ?_
  rotate_left
  · rintro w' ⟨s0, s1, s2, s3, s4, s5, s6, s7, s8, s9, s10, s11, s12, s13⟩
    go_simp
    with_reducible rfl
  rotate_left
  · simp only [Act.put, List.setIfInBounds_toArray, List.set_cons_zero, List.set_cons_succ, i64_w, i32_w]
    rfl
  refine one_ (i := 2) (N := some 50) #[true, true, true, false, false] rfl rfl (by kernel_rfl) (by decide) (fun K hK => ?_)
  refine goes_ Try.func17 (by kernel_rfl) rfl #[.agg #[.slice A0_0 l0_0.length c0_0, .int .i64 a0_1, .int .i64 a0_2, .int .i64 a0_3, .int .i64 a0_4, .int .i64 a0_5, .slice A0_6 l0_6.length c0_6]] (by rfl) rfl rfl (by (try simp only [List.map_toArray, List.map_cons, List.map_nil]); first | done | rfl) ?_
  with_reducible refine (laws_toArena.calls k A0_0 c0_0 l0_0 a0_1 a0_2 a0_3 a0_4 a0_5 A0_6 c0_6 l0_6 r21 r22 r23 r24 r25 r26 r27 w83 (Kd.C_below HR0_0.out HB.out) HC0_0.out (Kd.C_below HR0_6.out HB.out) HC0_6.out e28.out).mono ?_
  rintro e w85 ⟨v0_w85, v6_w85, rfl, h0_w85, h6_w85, hb⟩
  refine ⟨_, rfl, ?_⟩
  replace BK1 := Aside0.mk (blk_below BK1.out hb)
  replace O59 := Aside0.mk (Kd.S_below O59.out hb)
  replace O62 := Aside0.mk (Kd.R_below O62.out hb)
  replace BK64 := Aside0.mk (blk_below BK64.out hb)
  replace O70 := Aside0.mk (Kd.R_below O70.out hb)
  obtain ⟨A86, c87, rfl⟩ := Kd.S_slice h0_w85
  have O88 := Aside0.mk (show Kd.S (Kd.slice 5 (Kd.int .u8)) 62 w85 w.heap.size (Seg w83.heap.size w85.heap.size w85 [62, 5]) (.slice A86 r21.length c87) r21 from Kd.S_lower (Kd.S_mono (Kd.S_bound h0_w85) (fun k_ hk => ⟨hk.2.1, hk.2.2.1, hk.2.2.2⟩)) (below_size HB.out))
  obtain ⟨A89, c90, rfl⟩ := Kd.R_slice h6_w85
  have O91 := Aside0.mk (show Kd.R (Kd.int .i64) 3 w85 w.heap.size (Seg w83.heap.size w85.heap.size w85 [3]) (.slice A89 r27.length c90) r27 from Kd.R_lower (Kd.R_mono (Kd.R_bound h6_w85) (fun k_ hk => ⟨hk.2.1, hk.2.2.1, hk.2.2.2⟩)) (below_size HB.out))
  have Z92 := Aside0.mk (below_size hb)
  replace HB := Aside0.mk (below_step HB.out hb)
  clear hb h0_w85 h6_w85
  refine hK.out _ _ ⟨(blk_cell BK64.out 0).trans rfl, (blk_cell BK64.out 1).trans rfl, (blk_cell BK64.out 2).trans rfl, (blk_cell BK64.out 3).trans rfl, (blk_cell BK64.out 4).trans rfl, (blk_cell BK64.out 5).trans rfl, (blk_cell BK64.out 6).trans rfl, (blk_cell BK1.out 0).trans rfl, (blk_cell BK1.out 1).trans rfl, (blk_cell BK1.out 2).trans rfl, (blk_cell BK1.out 3).trans rfl, (blk_cell BK1.out 4).trans rfl, (blk_cell BK1.out 5).trans rfl, (blk_cell BK1.out 6).trans rfl⟩ (fun hHeld => ?_)
  clear hK K
  refine norm_ (a' := ?_) ?_ ?_
  rotate_left
  · show Act.put _ (some 50) _ = _
    simp only [Act.put, List.setIfInBounds_toArray, List.set_cons_zero, List.set_cons_succ, i64_w, i32_w]
    rfl
  refine one_ (i := 3) (N := some 51) #[true, true, true, true, false] rfl rfl (by kernel_rfl) (by decide) (fun K hK => ?_)
  refine goes_ Try.func19 (by kernel_rfl) rfl #[.agg #[.slice A57 r21.length c58, .int .i64 r22, .int .i64 r23, .int .i64 r24, .int .i64 r25, .int .i64 r26, .slice A60 r27.length c61], .agg #[.slice A86 r21.length c87, .int .i64 r22, .int .i64 r23, .int .i64 r24, .int .i64 r25, .int .i64 r26, .slice A89 r27.length c90]] (by rfl) rfl rfl (by (try simp only [List.map_toArray, List.map_cons, List.map_nil]); first | done | rfl) ?_
  with_reducible refine (laws_eqArena.calls k A57 c58 r21 r22 r23 r24 r25 r26 A60 c61 r27 A86 c87 r21 r22 r23 r24 r25 r26 A89 c90 r27 true w85 (Kd.S_reads' O59.out).2.2 (Kd.S_reads' O59.out).2.1 (Kd.R_reads' O62.out).2.2 (Kd.R_reads' O62.out).2.1 (Kd.S_reads' O88.out).2.2 (Kd.S_reads' O88.out).2.1 (Kd.R_reads' O91.out).2.2 (Kd.R_reads' O91.out).2.1 e94.out).mono ?_
  rintro e w93 ⟨rfl, hb⟩
  refine ⟨_, rfl, ?_⟩
  replace BK1 := Aside0.mk (blk_below BK1.out hb)
  replace O59 := Aside0.mk (Kd.S_below O59.out hb)
  replace O62 := Aside0.mk (Kd.R_below O62.out hb)
  replace BK64 := Aside0.mk (blk_below BK64.out hb)
  replace O70 := Aside0.mk (Kd.R_below O70.out hb)
  replace O88 := Aside0.mk (Kd.S_below O88.out hb)
  replace O91 := Aside0.mk (Kd.R_below O91.out hb)
  have Z95 := Aside0.mk (below_size hb)
  replace HB := Aside0.mk (below_step HB.out hb)
  clear hb 
  refine hK.out _ _ ⟨(blk_cell BK64.out 0).trans rfl, (blk_cell BK64.out 1).trans rfl, (blk_cell BK64.out 2).trans rfl, (blk_cell BK64.out 3).trans rfl, (blk_cell BK64.out 4).trans rfl, (blk_cell BK64.out 5).trans rfl, (blk_cell BK64.out 6).trans rfl, (blk_cell BK1.out 0).trans rfl, (blk_cell BK1.out 1).trans rfl, (blk_cell BK1.out 2).trans rfl, (blk_cell BK1.out 3).trans rfl, (blk_cell BK1.out 4).trans rfl, (blk_cell BK1.out 5).trans rfl, (blk_cell BK1.out 6).trans rfl⟩ (fun hHeld => ?_)
  clear hK K
  refine norm_ (a' := ?_) ?_ ?_
  rotate_left
  · show Act.put _ (some 51) _ = _
    simp only [Act.put, List.setIfInBounds_toArray, List.set_cons_zero, List.set_cons_succ, i64_w, i32_w]
    rfl
  refine pure_ (i := 4) (N := some 52) (v := ?_) (a' := ?_) #[true, true, true, true, true] rfl rfl (by kernel_rfl) (fun _ _ _ h => h) (Or.inl ⟨by rfl, ?_⟩) ?_ ?_
  rotate_left
  · intro w'
    go_simp
    with_reducible rfl
  rotate_left
  · simp only [Act.put, List.setIfInBounds_toArray, List.set_cons_zero, List.set_cons_succ, i64_w, i32_w]
    rfl
  refine done_ (by kernel_rfl) ?_
  clear hHeld
  clear BK1 O59 O62 BK64 O88 O91
  go_wp2_with fail
  refine (laws_toAskedS.calls k A1 c1 l1 r37 w93 (Kd.C_below HR1.out HB.out) HC1.out e38.out).mono ?_
  rintro e w96 ⟨v0_w96, rfl, h0_w96, hb⟩
  replace O70 := Aside0.mk (Kd.R_below O70.out hb)
  obtain ⟨A97, c98, rfl⟩ := Kd.R_slice h0_w96
  have O99 := Aside0.mk (show Kd.R k128 128 w96 w.heap.size (Seg w93.heap.size w96.heap.size w96 [128]) (.slice A97 r37.length c98) r37 from Kd.R_lower (Kd.R_mono (Kd.R_bound h0_w96) (fun k_ hk => ⟨hk.2.1, hk.2.2.1, hk.2.2.2⟩)) (below_size HB.out))
  have Z100 := Aside0.mk (below_size hb)
  replace HB := Aside0.mk (below_step HB.out hb)
  clear hb h0_w96
  go_wp2_with fail
  refine (laws_eqAskedS.calls k A68 c69 r37 A97 c98 r37 true w96 (Kd.R_reads' O70.out).2.2 (Kd.R_reads' O70.out).2.1 (Kd.R_reads' O99.out).2.2 (Kd.R_reads' O99.out).2.1 e102.out).mono ?_
  rintro e w101 ⟨rfl, hb⟩
  replace O70 := Aside0.mk (Kd.R_below O70.out hb)
  replace O99 := Aside0.mk (Kd.R_below O99.out hb)
  have Z103 := Aside0.mk (below_size hb)
  replace HB := Aside0.mk (below_step HB.out hb)
  clear hb 
  clear O70 O99
  go_wp2_with fail
  go_ret
  exact ⟨rfl, HB.out⟩

set_option maxHeartbeats 8000000 in
set_option maxRecDepth 100000 in
theorem FnExactLostBytes.walk_big0 (k : Nat) (A0_0 : Option Addr) (c0_0 : Nat) (l0_0 : List (List Int)) (a0_1 : Int) (a0_2 : Int) (a0_3 : Int) (a0_4 : Int) (a0_5 : Int) (A0_6 : Option Addr) (c0_6 : Nat) (l0_6 : List Int) (A1 : Option Addr) (c1 : Nat) (l1 : List S125) (r5 : Int) (w : World) (HR0_0 : Kd.C (Kd.slice 5 (Kd.int .u8)) w A0_0 l0_0.length l0_0) (HC0_0 : l0_0.length ≤ c0_0) (HR0_6 : Kd.C (Kd.int .i64) w A0_6 l0_6.length l0_6) (HC0_6 : l0_6.length ≤ c0_6) (HR1 : Kd.C k125 w A1 l1.length l1) (HC1 : l1.length ≤ c1) (e6 : laws_szArena.f k l0_0 a0_1 a0_2 a0_3 a0_4 a0_5 l0_6 1048576 = some r5) (n_r5 : r5 < 0) :
    Calls Try.prog 7 #[.agg #[.slice A0_0 l0_0.length c0_0, .int .i64 a0_1, .int .i64 a0_2, .int .i64 a0_3, .int .i64 a0_4, .int .i64 a0_5, .slice A0_6 l0_6.length c0_6], .slice A1 l1.length c1] w fun e w' => e = .returned (.bool true) ∧ Below w.heap.size w w' := by
  have hu29 := Try.underlying29
  have hu34 := Try.underlying34
  replace HR0_0 := Aside0.mk HR0_0
  replace HC0_0 := Aside0.mk HC0_0
  replace HR0_6 := Aside0.mk HR0_6
  replace HC0_6 := Aside0.mk HC0_6
  replace HR1 := Aside0.mk HR1
  replace HC1 := Aside0.mk HC1
  replace e6 := Aside0.mk e6
  replace n_r5 := decide_eq_true n_r5
  have HB := Aside0.mk (Below.refl w.heap.size w)
  go_enter Try.func7, Try.ntmps7
  go_wp2_with fail
  have HA2 := Below.alloc (Below.refl w.heap.size w) (Nat.le_refl _) (.cells #[.slice A0_0 l0_0.length c0_0, .int .i64 a0_1, .int .i64 a0_2, .int .i64 a0_3, .int .i64 a0_4, .int .i64 a0_5, .slice A0_6 l0_6.length c0_6] 29)
  have BK1 := Aside0.mk (heap_alloc_new w (.cells #[.slice A0_0 l0_0.length c0_0, .int .i64 a0_1, .int .i64 a0_2, .int .i64 a0_3, .int .i64 a0_4, .int .i64 a0_5, .slice A0_6 l0_6.length c0_6] 29))
  replace HB := Aside0.mk (below_step HB.out HA2)
  have Z3 := Aside0.mk (show w.heap.size < (w.alloc (.cells #[.slice A0_0 l0_0.length c0_0, .int .i64 a0_1, .int .i64 a0_2, .int .i64 a0_3, .int .i64 a0_4, .int .i64 a0_5, .slice A0_6 l0_6.length c0_6] 29)).heap.size by simp)
  clear HA2
  refine (laws_szArena.calls k A0_0 c0_0 l0_0 a0_1 a0_2 a0_3 a0_4 a0_5 A0_6 c0_6 l0_6 1048576 r5 (w.alloc (.cells #[.slice A0_0 l0_0.length c0_0, .int .i64 a0_1, .int .i64 a0_2, .int .i64 a0_3, .int .i64 a0_4, .int .i64 a0_5, .slice A0_6 l0_6.length c0_6] 29)) (Kd.C_below HR0_0.out HB.out) HC0_0.out (Kd.C_below HR0_6.out HB.out) HC0_6.out e6.out).mono ?_
  rintro e w4 ⟨rfl, hb⟩
  replace BK1 := Aside0.mk (blk_below BK1.out hb)
  have Z7 := Aside0.mk (below_size hb)
  replace HB := Aside0.mk (below_step HB.out hb)
  clear hb 
  go_wp2
  go_ret
  exact ⟨rfl, HB.out⟩

set_option maxHeartbeats 8000000 in
set_option maxRecDepth 100000 in
theorem FnExactLostBytes.walk_big1 (k : Nat) (A0_0 : Option Addr) (c0_0 : Nat) (l0_0 : List (List Int)) (a0_1 : Int) (a0_2 : Int) (a0_3 : Int) (a0_4 : Int) (a0_5 : Int) (A0_6 : Option Addr) (c0_6 : Nat) (l0_6 : List Int) (A1 : Option Addr) (c1 : Nat) (l1 : List S125) (r5 : Int) (r9 : Int) (w : World) (HR0_0 : Kd.C (Kd.slice 5 (Kd.int .u8)) w A0_0 l0_0.length l0_0) (HC0_0 : l0_0.length ≤ c0_0) (HR0_6 : Kd.C (Kd.int .i64) w A0_6 l0_6.length l0_6) (HC0_6 : l0_6.length ≤ c0_6) (HR1 : Kd.C k125 w A1 l1.length l1) (HC1 : l1.length ≤ c1) (e6 : laws_szArena.f k l0_0 a0_1 a0_2 a0_3 a0_4 a0_5 l0_6 1048576 = some r5) (n_r5 : ¬ r5 < 0) (e10 : laws_szAskedS.f l1 r5 = some r9) (n_r9 : r9 < 0) :
    Calls Try.prog 7 #[.agg #[.slice A0_0 l0_0.length c0_0, .int .i64 a0_1, .int .i64 a0_2, .int .i64 a0_3, .int .i64 a0_4, .int .i64 a0_5, .slice A0_6 l0_6.length c0_6], .slice A1 l1.length c1] w fun e w' => e = .returned (.bool true) ∧ Below w.heap.size w w' := by
  have hu29 := Try.underlying29
  have hu34 := Try.underlying34
  replace HR0_0 := Aside0.mk HR0_0
  replace HC0_0 := Aside0.mk HC0_0
  replace HR0_6 := Aside0.mk HR0_6
  replace HC0_6 := Aside0.mk HC0_6
  replace HR1 := Aside0.mk HR1
  replace HC1 := Aside0.mk HC1
  replace e6 := Aside0.mk e6
  replace n_r5 := decide_eq_false n_r5
  replace e10 := Aside0.mk e10
  replace n_r9 := decide_eq_true n_r9
  have HB := Aside0.mk (Below.refl w.heap.size w)
  go_enter Try.func7, Try.ntmps7
  go_wp2_with fail
  have HA2 := Below.alloc (Below.refl w.heap.size w) (Nat.le_refl _) (.cells #[.slice A0_0 l0_0.length c0_0, .int .i64 a0_1, .int .i64 a0_2, .int .i64 a0_3, .int .i64 a0_4, .int .i64 a0_5, .slice A0_6 l0_6.length c0_6] 29)
  have BK1 := Aside0.mk (heap_alloc_new w (.cells #[.slice A0_0 l0_0.length c0_0, .int .i64 a0_1, .int .i64 a0_2, .int .i64 a0_3, .int .i64 a0_4, .int .i64 a0_5, .slice A0_6 l0_6.length c0_6] 29))
  replace HB := Aside0.mk (below_step HB.out HA2)
  have Z3 := Aside0.mk (show w.heap.size < (w.alloc (.cells #[.slice A0_0 l0_0.length c0_0, .int .i64 a0_1, .int .i64 a0_2, .int .i64 a0_3, .int .i64 a0_4, .int .i64 a0_5, .slice A0_6 l0_6.length c0_6] 29)).heap.size by simp)
  clear HA2
  refine (laws_szArena.calls k A0_0 c0_0 l0_0 a0_1 a0_2 a0_3 a0_4 a0_5 A0_6 c0_6 l0_6 1048576 r5 (w.alloc (.cells #[.slice A0_0 l0_0.length c0_0, .int .i64 a0_1, .int .i64 a0_2, .int .i64 a0_3, .int .i64 a0_4, .int .i64 a0_5, .slice A0_6 l0_6.length c0_6] 29)) (Kd.C_below HR0_0.out HB.out) HC0_0.out (Kd.C_below HR0_6.out HB.out) HC0_6.out e6.out).mono ?_
  rintro e w4 ⟨rfl, hb⟩
  replace BK1 := Aside0.mk (blk_below BK1.out hb)
  have Z7 := Aside0.mk (below_size hb)
  replace HB := Aside0.mk (below_step HB.out hb)
  clear hb 
  go_wp2_with fail
  refine (laws_szAskedS.calls A1 c1 l1 r5 r9 w4 (Kd.C_below HR1.out HB.out) HC1.out e10.out).mono ?_
  rintro e w8 ⟨rfl, hb⟩
  replace hb := Drawn0.below hb
  replace BK1 := Aside0.mk (blk_below BK1.out hb)
  have Z11 := Aside0.mk (below_size hb)
  replace HB := Aside0.mk (below_step HB.out hb)
  clear hb 
  go_wp2
  go_ret
  exact ⟨rfl, HB.out⟩

def FnExactLostBytes.Pure : Prop := ∀ (l0_0 : List (List Int)) (a0_1 : Int) (a0_2 : Int) (a0_3 : Int) (a0_4 : Int) (a0_5 : Int) (l0_6 : List Int) (l1 : List S125), (l0_0.length ≤ maxLen ∧ ∀ z ∈ l0_0, (z.length ≤ maxLen ∧ ∀ z2 ∈ z, (Lit.int .u8 z2).wf = true)) → (Lit.int .i64 a0_1).wf = true → (Lit.int .i64 a0_2).wf = true → (Lit.int .i64 a0_3).wf = true → (Lit.int .i64 a0_4).wf = true → (Lit.int .i64 a0_5).wf = true → (l0_6.length ≤ maxLen ∧ ∀ z ∈ l0_6, (Lit.int .i64 z).wf = true) → (l1.length ≤ maxLen ∧ ∀ z ∈ l1, wf125 z) → (∃ (k : Nat) (r5 : Int) (r9 : Int) (r21 : List (List Int)) (r22 : Int) (r23 : Int) (r24 : Int) (r25 : Int) (r26 : Int) (r27 : List Int) (r37 : List S128) (r44 : Int) (r45 : Bool), laws_szArena.f k l0_0 a0_1 a0_2 a0_3 a0_4 a0_5 l0_6 1048576 = some r5 ∧ ¬ r5 < 0 ∧ laws_szAskedS.f l1 r5 = some r9 ∧ ¬ r9 < 0 ∧ laws_toArena.f k l0_0 a0_1 a0_2 a0_3 a0_4 a0_5 l0_6 = some (r21, r22, r23, r24, r25, r26, r27) ∧ laws_toAskedS.f k l1 = some r37 ∧ spec_LostBytes.f k r21 r22 r23 r24 r25 r26 r27 r37 = some (r44, r45) ∧ impl_LostBytes.f k r21 r22 r23 r24 r25 r26 r27 r37 = some (r44, r45) ∧ laws_eqArena.f k r21 r22 r23 r24 r25 r26 r27 r21 r22 r23 r24 r25 r26 r27 = some true ∧ laws_eqAskedS.f k r37 r37 = some true) ∨
  (∃ (k : Nat) (r5 : Int), laws_szArena.f k l0_0 a0_1 a0_2 a0_3 a0_4 a0_5 l0_6 1048576 = some r5 ∧ r5 < 0) ∨
  (∃ (k : Nat) (r5 : Int) (r9 : Int), laws_szArena.f k l0_0 a0_1 a0_2 a0_3 a0_4 a0_5 l0_6 1048576 = some r5 ∧ ¬ r5 < 0 ∧ laws_szAskedS.f l1 r5 = some r9 ∧ r9 < 0)

theorem FnExactLostBytes.call (P_ : FnExactLostBytes.Pure) (A0_0 : Option Addr) (c0_0 : Nat) (l0_0 : List (List Int)) (a0_1 : Int) (a0_2 : Int) (a0_3 : Int) (a0_4 : Int) (a0_5 : Int) (A0_6 : Option Addr) (c0_6 : Nat) (l0_6 : List Int) (A1 : Option Addr) (c1 : Nat) (l1 : List S125) (w : World) (HR0_0 : Kd.C (Kd.slice 5 (Kd.int .u8)) w A0_0 l0_0.length l0_0) (HC0_0 : l0_0.length ≤ c0_0) (HR0_6 : Kd.C (Kd.int .i64) w A0_6 l0_6.length l0_6) (HC0_6 : l0_6.length ≤ c0_6) (HR1 : Kd.C k125 w A1 l1.length l1) (HC1 : l1.length ≤ c1) (W_0 : (l0_0.length ≤ maxLen ∧ ∀ z ∈ l0_0, (z.length ≤ maxLen ∧ ∀ z2 ∈ z, (Lit.int .u8 z2).wf = true))) (W_1 : (Lit.int .i64 a0_1).wf = true) (W_2 : (Lit.int .i64 a0_2).wf = true) (W_3 : (Lit.int .i64 a0_3).wf = true) (W_4 : (Lit.int .i64 a0_4).wf = true) (W_5 : (Lit.int .i64 a0_5).wf = true) (W_6 : (l0_6.length ≤ maxLen ∧ ∀ z ∈ l0_6, (Lit.int .i64 z).wf = true)) (W_7 : (l1.length ≤ maxLen ∧ ∀ z ∈ l1, wf125 z)) :
    Calls Try.prog 7 #[.agg #[.slice A0_0 l0_0.length c0_0, .int .i64 a0_1, .int .i64 a0_2, .int .i64 a0_3, .int .i64 a0_4, .int .i64 a0_5, .slice A0_6 l0_6.length c0_6], .slice A1 l1.length c1] w fun e w' => e = .returned (.bool true) ∧ Below w.heap.size w w' := by
  rcases P_ l0_0 a0_1 a0_2 a0_3 a0_4 a0_5 l0_6 l1 W_0 W_1 W_2 W_3 W_4 W_5 W_6 W_7 with h_ | h_ | h_
  · obtain ⟨k, r5, r9, r21, r22, r23, r24, r25, r26, r27, r37, r44, r45, e6, n_r5, e10, n_r9, e28, e38, e46, e81, e94, e102⟩ := h_
    exact FnExactLostBytes.walk k A0_0 c0_0 l0_0 a0_1 a0_2 a0_3 a0_4 a0_5 A0_6 c0_6 l0_6 A1 c1 l1 r5 r9 r21 r22 r23 r24 r25 r26 r27 r37 r44 r45 w HR0_0 HC0_0 HR0_6 HC0_6 HR1 HC1 e6 n_r5 e10 n_r9 e28 e38 e46 e81 e94 e102
  · obtain ⟨k, r5, e6, n_r5⟩ := h_
    exact FnExactLostBytes.walk_big0 k A0_0 c0_0 l0_0 a0_1 a0_2 a0_3 a0_4 a0_5 A0_6 c0_6 l0_6 A1 c1 l1 r5 w HR0_0 HC0_0 HR0_6 HC0_6 HR1 HC1 e6 n_r5
  · obtain ⟨k, r5, r9, e6, n_r5, e10, n_r9⟩ := h_
    exact FnExactLostBytes.walk_big1 k A0_0 c0_0 l0_0 a0_1 a0_2 a0_3 a0_4 a0_5 A0_6 c0_6 l0_6 A1 c1 l1 r5 r9 w HR0_0 HC0_0 HR0_6 HC0_6 HR1 HC1 e6 n_r5 e10 n_r9
end Go.Proofs.Ythlppjdlljofdaa.P
namespace Go.Proofs.Ythlppjdlljofdaa.P
open Go.RowKit Go.Proofs.YthlppjdlljofdaaW.PrintWords Go.Proofs.YthlppjdlljofdaaW.PrintLast Go.Proofs.YthlppjdlljofdaaW.PrintMore
set_option linter.unusedVariables false

/-- From some number of rounds on, F tells r. -/
def Ter {α : Type} (F : Nat → Option α) (r : α) : Prop := ∃ K, ∀ k, K ≤ k → F k = some r

theorem Ter.const {α : Type} {o : Option α} {r : α} (h : o = some r) : Ter (fun _ => o) r := ⟨0, fun _ _ => h⟩

theorem Ter.ret {α : Type} (r : α) : Ter (fun _ => some r) r := ⟨0, fun _ _ => rfl⟩

theorem Ter.succ {α : Type} {F : Nat → Option α} {r : α} (h : Ter (fun k => F (k + 1)) r) : Ter F r := by
  obtain ⟨K, h⟩ := h
  refine ⟨K + 1, fun k hk => ?_⟩
  obtain ⟨j, rfl⟩ : ∃ j, k = j + 1 := ⟨k - 1, by omega⟩
  exact h j (by omega)

theorem Ter.bind {α β : Type} {F : Nat → Option α} {G : Nat → α → Option β} {a : α} {b : β} (h1 : Ter F a) (h2 : Ter (fun k => G k a) b) : Ter (fun k => (F k).bind (G k)) b := by
  obtain ⟨K1, h1⟩ := h1
  obtain ⟨K2, h2⟩ := h2
  refine ⟨K1 + K2, fun k hk => ?_⟩
  show (F k).bind (G k) = _
  rw [h1 k (by omega)]
  exact h2 k (by omega)

theorem Ter.ifp {α : Type} {c : Prop} [Decidable c] {F G : Nat → Option α} {r : α} (h : c) (h1 : Ter F r) : Ter (fun k => if c then F k else G k) r := by
  simp only [if_pos h]
  exact h1

theorem Ter.ifn {α : Type} {c : Prop} [Decidable c] {F G : Nat → Option α} {r : α} (h : ¬ c) (h1 : Ter G r) : Ter (fun k => if c then F k else G k) r := by
  simp only [if_neg h]
  exact h1

theorem Ter.congr {α : Type} {F G : Nat → Option α} {r : α} (h : ∀ k, F k = G k) (h1 : Ter G r) : Ter F r := by
  obtain ⟨K, h1⟩ := h1
  exact ⟨K, fun k hk => (h k).trans (h1 k hk)⟩

theorem Ter.eq {α : Type} {F : Nat → Option α} {r s : α} (h : Ter F r) (e : r = s) : Ter F s := e ▸ h

theorem Ter.at {α : Type} {F : Nat → Option α} {r : α} (h : Ter F r) : ∃ K, ∀ k, K ≤ k → F k = some r := h

/-- Down from the last index. -/
theorem down_ {Q : Nat → Prop} (n : Nat) (fin : Q n) (step : ∀ i, i < n → Q (i + 1) → Q i) : ∀ i, i ≤ n → Q i := by
  have h : ∀ j i, i + j = n → Q i := by
    intro j
    induction j with
    | zero => intro i h; have : i = n := by omega
              exact this ▸ fin
    | succ j ih => intro i h; exact step i (by omega) (ih (i + 1) (by omega))
  intro i hi
  exact h (n - i) i (by omega)

theorem w64 {n : Int} (h0 : -9223372036854775808 ≤ n) (h1 : n ≤ 9223372036854775807) : wrap64 n = n := by unfold wrap64; omega

theorem w64s {i n : Nat} (h : i < n) (hn : n ≤ 9223372036854775807) : wrap64 ((i : Int) + 1) = ((i + 1 : Nat) : Int) := by
  rw [w64 (by omega) (by omega)]
  omega

theorem maxLen_ : maxLen = 9223372036854775807 := rfl

theorem getD_at {α : Type} {xs : List α} {d : α} {i : Nat} (h : i < xs.length) : xs.getD ((i : Int)).toNat d = xs[i] := by
  rw [Int.toNat_natCast, List.getD_eq_getElem?_getD, List.getElem?_eq_getElem h]
  rfl

theorem rd_at {xs : List Int} {i : Nat} (h : i < xs.length) : rd xs (i : Int) = xs[i] := getD_at h

theorem fill_set {α : Type} {xs : List α} {z : α} {i : Nat} (h : i < xs.length) : (xs.take i ++ List.replicate (xs.length - i) z).set ((i : Int)).toNat xs[i] = xs.take (i + 1) ++ List.replicate (xs.length - (i + 1)) z := by
  rw [Int.toNat_natCast]
  apply List.ext_getElem?
  intro j
  by_cases hj : j = i
  · subst hj
    rw [List.getElem?_set_self (by simp; omega), List.getElem?_append_left (by simp; omega), List.getElem?_take_of_lt (by omega), List.getElem?_eq_getElem h]
  · rw [List.getElem?_set_ne (by omega)]
    by_cases h1 : j < i
    · rw [List.getElem?_append_left (by simp; omega), List.getElem?_append_left (by simp; omega), List.getElem?_take_of_lt h1, List.getElem?_take_of_lt (by omega)]
    · rw [List.getElem?_append_right (by simp; omega), List.getElem?_append_right (by simp; omega)]
      simp only [List.length_take, List.getElem?_replicate]
      rw [show min i xs.length = i by omega, show min (i + 1) xs.length = i + 1 by omega]
      by_cases h2 : j < xs.length
      · rw [if_pos (by omega), if_pos (by omega)]
      · rw [if_neg (by omega), if_neg (by omega)]

theorem fill_len {α : Type} {xs : List α} {z : α} {i : Nat} (h : i ≤ xs.length) : (xs.take i ++ List.replicate (xs.length - i) z).length = xs.length := by
  simp
  omega

theorem fill_all {α : Type} {xs : List α} {z : α} : xs.take xs.length ++ List.replicate (xs.length - xs.length) z = xs := by simp

theorem take_one {α : Type} {xs : List α} {i : Nat} (h : i < xs.length) : xs.take i ++ [xs[i]] = xs.take (i + 1) := by
  rw [List.take_add_one, List.getElem?_eq_getElem h]
  rfl
end Go.Proofs.Ythlppjdlljofdaa.P
namespace Go.Proofs.Ythlppjdlljofdaa.P
open Go.RowKit Go.Proofs.YthlppjdlljofdaaW.PrintWords Go.Proofs.YthlppjdlljofdaaW.PrintLast Go.Proofs.YthlppjdlljofdaaW.PrintMore
set_option linter.unusedVariables false

def Small {α : Type} (l : List α) : Prop := l.length ≤ 1048576

theorem Small.le {α : Type} {l : List α} (h : Small l) : l.length ≤ 1048576 := h

theorem szByteS_is {l : List Int} {a : Int} (h0 : 0 ≤ a) (h1 : a ≤ 1048576) (hl : l.length ≤ maxLen) : ∃ r, laws_szByteS.f l a = some r ∧ (r < 0 ∨ (0 ≤ r ∧ r ≤ a ∧ Small l)) := by
  rw [maxLen_] at hl
  unfold laws_szByteS.f Small
  rw [w64 (by omega) (by omega)]
  by_cases h : a - (l.length : Int) < 0
  · rw [if_pos h]; exact ⟨_, rfl, .inl (by omega)⟩
  · rw [if_neg h]; exact ⟨_, rfl, .inr (by omega)⟩

theorem szByteSS_is {l : List (List Int)} {a : Int} (h0 : 0 ≤ a) (h1 : a ≤ 1048576) (hl : l.length ≤ maxLen ∧ ∀ z ∈ l, z.length ≤ maxLen) : ∃ r, Ter (fun k => laws_szByteSS.f k l a) r ∧ (r < 0 ∨ (0 ≤ r ∧ r ≤ a ∧ Small l ∧ ∀ z ∈ l, Small z)) := by
  have hl1 := hl.1
  rw [maxLen_] at hl1
  unfold laws_szByteSS.f
  rw [w64 (by omega) (by omega)]
  by_cases h : a - (l.length : Int) < 0
  · simp only [if_pos h]; exact ⟨_, Ter.ret _, .inl (by omega)⟩
  · simp only [if_neg h]
    have hs : Small l := by unfold Small; omega
    have key := down_ (Q := fun i => ∀ b, 0 ≤ b → b ≤ a → ∃ r, Ter (fun k => laws_szByteSS.l0 k l b (i : Int)) r ∧ (r < 0 ∨ (0 ≤ r ∧ r ≤ b ∧ ∀ j, i ≤ j → ∀ hj : j < l.length, Small l[j]))) l.length
      (fun b hb0 hb1 => ⟨b, Ter.succ (by simp only [laws_szByteSS.l0]; exact Ter.ifn (by omega) (Ter.ret _)), .inr ⟨hb0, Int.le_refl _, fun j h1 h2 => by omega⟩⟩)
      (fun i hi ih b hb0 hb1 => by
        obtain ⟨r, hr, hr2⟩ := szByteS_is (l := l[i]) hb0 (by omega) (hl.2 _ (List.getElem_mem hi))
        rcases hr2 with hr2 | ⟨hr2, hr3, hr4⟩
        · refine ⟨-1, Ter.succ ?_, .inl (by omega)⟩
          simp only [laws_szByteSS.l0]
          refine Ter.ifp (by omega) (Ter.ifp (by omega) ?_)
          rw [show rd_L1 l (i : Int) = l[i] from getD_at hi, hr]
          exact Ter.ifp (c := r < 0) hr2 (Ter.ret _)
        · obtain ⟨q, hq, hq2⟩ := ih r hr2 (by omega)
          refine ⟨q, Ter.succ ?_, ?_⟩
          · simp only [laws_szByteSS.l0]
            refine Ter.ifp (by omega) (Ter.ifp (by omega) ?_)
            rw [show rd_L1 l (i : Int) = l[i] from getD_at hi, hr]
            refine Ter.ifn (c := r < 0) (by omega) ?_
            rw [w64s hi (by omega)]
            exact hq
          · rcases hq2 with h | ⟨h1, h2, h3⟩
            · exact .inl h
            · refine .inr ⟨h1, by omega, fun j hj hj2 => ?_⟩
              by_cases hij : j = i
              · subst hij; exact hr4
              · exact h3 j (by omega) hj2) 0 (by omega) (a - (l.length : Int)) (by omega) (by omega)
    obtain ⟨r, hr, hr2⟩ := key
    refine ⟨r, hr, ?_⟩
    rcases hr2 with h | ⟨h1, h2, h3⟩
    · exact .inl h
    · refine .inr ⟨h1, by omega, hs, fun z hz => ?_⟩
      obtain ⟨j, hj, rfl⟩ := List.getElem_of_mem hz
      exact h3 j (by omega) hj

theorem szMemory_is {l : List (List Int)} {a : Int} (h0 : 0 ≤ a) (h1 : a ≤ 1048576) (hl : l.length ≤ maxLen ∧ ∀ z ∈ l, z.length ≤ maxLen) : ∃ r, Ter (fun k => laws_szMemory.f k l a) r ∧ (r < 0 ∨ (0 ≤ r ∧ r ≤ a ∧ Small l ∧ ∀ z ∈ l, Small z)) := by
  obtain ⟨r, hr, h⟩ := szByteSS_is h0 h1 hl
  unfold laws_szMemory.f
  rcases h with h | ⟨h2, h3, h4⟩
  · exact ⟨-1, hr.bind (Ter.ifp h (Ter.ret _)), .inl (by omega)⟩
  · exact ⟨r, hr.bind (Ter.ifn (by omega) (Ter.ret _)), .inr ⟨h2, h3, h4⟩⟩

theorem toByteS_is {l : List Int} (h : Small l) : Ter (fun k => laws_toByteS.f k l) l := by
  have hl := h.le
  unfold laws_toByteS.f
  refine Ter.ifp (by omega) (Ter.ifp (by omega) ?_)
  have key := down_ (Q := fun i => Ter (fun k => laws_toByteS.l0 k l (l.take i ++ List.replicate (l.length - i) 0) (i : Int)) l) l.length
    (Ter.succ (by simp only [laws_toByteS.l0]; exact Ter.ifn (by omega) ((Ter.ret _).eq fill_all)))
    (fun i hi ih => by
      refine Ter.succ ?_
      simp only [laws_toByteS.l0]
      refine Ter.ifp (by omega) (Ter.ifp (by omega) (Ter.ifp (by rw [fill_len (by omega)]; omega) ?_))
      rw [rd_at hi, w64s hi (by omega), fill_set hi]
      exact ih) 0 (by omega)
  simpa using key

theorem toByteSS_is {l : List (List Int)} (h : Small l) (hz : ∀ z ∈ l, Small z) : Ter (fun k => laws_toByteSS.f k l) l := by
  have hl := h.le
  unfold laws_toByteSS.f
  refine Ter.ifp (by omega) (Ter.ifp (by omega) ?_)
  have key := down_ (Q := fun i => Ter (fun k => laws_toByteSS.l0 k l (l.take i ++ List.replicate (l.length - i) []) (i : Int)) l) l.length
    (Ter.succ (by simp only [laws_toByteSS.l0]; exact Ter.ifn (by omega) ((Ter.ret _).eq fill_all)))
    (fun i hi ih => by
      refine Ter.succ ?_
      simp only [laws_toByteSS.l0]
      refine Ter.ifp (by omega) (Ter.ifp (by omega) ?_)
      rw [show rd_L1 l (i : Int) = l[i] from getD_at hi]
      refine (toByteS_is (hz _ (List.getElem_mem hi))).bind (Ter.ifp (by rw [fill_len (by omega)]; omega) ?_)
      rw [w64s hi (by omega), fill_set hi]
      exact ih) 0 (by omega)
  simpa using key

theorem toMemory_is {l : List (List Int)} (h : Small l) (hz : ∀ z ∈ l, Small z) : Ter (fun k => laws_toMemory.f k l) l := (toByteSS_is h hz).bind (Ter.ret _)

theorem eqByteS_is {l : List Int} (h : l.length ≤ maxLen) : Ter (fun k => laws_eqByteS.f k l l) true := by
  rw [maxLen_] at h
  unfold laws_eqByteS.f
  refine Ter.ifp rfl ?_
  exact down_ (Q := fun i => Ter (fun k => laws_eqByteS.l0 k l l (i : Int)) true) l.length
    (Ter.succ (by simp only [laws_eqByteS.l0]; exact Ter.ifn (by omega) (Ter.ret _)))
    (fun i hi ih => by
      refine Ter.succ ?_
      simp only [laws_eqByteS.l0, if_true]
      refine Ter.ifp (by omega) (Ter.ifp (by omega) (Ter.ifp (by omega) ?_))
      rw [w64s hi (by omega)]
      exact ih) 0 (by omega)

theorem eqByteSS_is {l : List (List Int)} (h : l.length ≤ maxLen ∧ ∀ z ∈ l, z.length ≤ maxLen) : Ter (fun k => laws_eqByteSS.f k l l) true := by
  have h1 := h.1
  rw [maxLen_] at h1
  unfold laws_eqByteSS.f
  refine Ter.ifp rfl ?_
  exact down_ (Q := fun i => Ter (fun k => laws_eqByteSS.l0 k l l (i : Int)) true) l.length
    (Ter.succ (by simp only [laws_eqByteSS.l0]; exact Ter.ifn (by omega) (Ter.ret _)))
    (fun i hi ih => by
      refine Ter.succ ?_
      simp only [laws_eqByteSS.l0]
      refine Ter.ifp (by omega) (Ter.ifp (by omega) (Ter.ifp (by omega) ?_))
      rw [show rd_L1 l (i : Int) = l[i] from getD_at hi]
      refine (eqByteS_is (h.2 _ (List.getElem_mem hi))).bind (Ter.ifp rfl ?_)
      rw [w64s hi (by omega)]
      exact ih) 0 (by omega)

theorem eqMemory_is {l : List (List Int)} (h : l.length ≤ maxLen ∧ ∀ z ∈ l, z.length ≤ maxLen) : Ter (fun k => laws_eqMemory.f k l l) true := (eqByteSS_is h).bind (Ter.ifp rfl (Ter.ret _))
end Go.Proofs.Ythlppjdlljofdaa.P
namespace Go.Proofs.Ythlppjdlljofdaa.P
open Go.RowKit Go.Proofs.YthlppjdlljofdaaW.PrintWords Go.Proofs.YthlppjdlljofdaaW.PrintLast Go.Proofs.YthlppjdlljofdaaW.PrintMore
set_option linter.unusedVariables false

def wf64 (n : Int) : Prop := -9223372036854775808 ≤ n ∧ n ≤ 9223372036854775807

theorem wf64_of {n : Int} (h : (Lit.int .i64 n).wf = true) : wf64 n := by
  simp only [Lit.wf, Bool.and_eq_true, decide_eq_true_eq] at h
  exact h

def wfW (x : S32) : Prop := wf64 x.f0 ∧ wf64 x.f1 ∧ wf64 x.f2 ∧ wf64 x.f3

theorem eqWindow_is (a b c d : Int) : laws_eqWindow.f a b c d a b c d = some true := by simp [laws_eqWindow.f]
end Go.Proofs.Ythlppjdlljofdaa.P
namespace Go.Proofs.Ythlppjdlljofdaa.P
open Go.RowKit Go.Proofs.YthlppjdlljofdaaW.PrintWords Go.Proofs.YthlppjdlljofdaaW.PrintLast Go.Proofs.YthlppjdlljofdaaW.PrintMore
set_option linter.unusedVariables false

theorem szIntS_is {l : List Int} {a : Int} (h0 : 0 ≤ a) (h1 : a ≤ 1048576) (hl : l.length ≤ maxLen) : ∃ r, laws_szIntS.f l a = some r ∧ (r < 0 ∨ (0 ≤ r ∧ r ≤ a ∧ Small l)) := by
  rw [maxLen_] at hl
  unfold laws_szIntS.f Small
  rw [w64 (by omega) (by omega)]
  by_cases h : a - (l.length : Int) < 0
  · rw [if_pos h]; exact ⟨_, rfl, .inl (by omega)⟩
  · rw [if_neg h]; exact ⟨_, rfl, .inr (by omega)⟩

theorem toIntS_is {l : List Int} (h : Small l) : Ter (fun k => laws_toIntS.f k l) l := by
  have hl := h.le
  unfold laws_toIntS.f
  refine Ter.ifp (by omega) (Ter.ifp (by omega) ?_)
  have key := down_ (Q := fun i => Ter (fun k => laws_toIntS.l0 k l (l.take i ++ List.replicate (l.length - i) 0) (i : Int)) l) l.length
    (Ter.succ (by simp only [laws_toIntS.l0]; exact Ter.ifn (by omega) ((Ter.ret _).eq fill_all)))
    (fun i hi ih => by
      refine Ter.succ ?_
      simp only [laws_toIntS.l0]
      refine Ter.ifp (by omega) (Ter.ifp (by omega) (Ter.ifp (by rw [fill_len (by omega)]; omega) ?_))
      rw [rd_at hi, w64s hi (by omega), fill_set hi]
      exact ih) 0 (by omega)
  simpa using key

theorem eqIntS_is {l : List Int} (h : l.length ≤ maxLen) : Ter (fun k => laws_eqIntS.f k l l) true := by
  rw [maxLen_] at h
  unfold laws_eqIntS.f
  refine Ter.ifp rfl ?_
  exact down_ (Q := fun i => Ter (fun k => laws_eqIntS.l0 k l l (i : Int)) true) l.length
    (Ter.succ (by simp only [laws_eqIntS.l0]; exact Ter.ifn (by omega) (Ter.ret _)))
    (fun i hi ih => by
      refine Ter.succ ?_
      simp only [laws_eqIntS.l0, if_true]
      refine Ter.ifp (by omega) (Ter.ifp (by omega) (Ter.ifp (by omega) ?_))
      rw [w64s hi (by omega)]
      exact ih) 0 (by omega)

theorem szArena_is {m : List (List Int)} {a s n c u : Int} {l : List Int} (hl : m.length ≤ maxLen ∧ ∀ z ∈ m, z.length ≤ maxLen) (hw : l.length ≤ maxLen) {t : Int} (ht0 : 0 ≤ t) (ht : t ≤ 1048576) : ∃ r, Ter (fun k => laws_szArena.f k m a s n c u l t) r ∧ (r < 0 ∨ (0 ≤ r ∧ r ≤ t ∧ Small m ∧ (∀ z ∈ m, Small z) ∧ Small l)) := by
  unfold laws_szArena.f
  obtain ⟨r, hr, h⟩ := szMemory_is (a := t) (by omega) (by omega) hl
  rcases h with h | ⟨h1, h2, h3, h4⟩
  · exact ⟨-1, hr.bind (Ter.ifp h (Ter.ret _)), .inl (by omega)⟩
  · obtain ⟨q, hq, h⟩ := szIntS_is h1 (by omega) hw
    rcases h with h | ⟨h5, h6, h7⟩
    · exact ⟨-1, hr.bind (Ter.ifn (by omega) (Ter.bind (F := fun _ => laws_szIntS.f l r) (Ter.const hq) (Ter.ifp h (Ter.ret _)))), .inl (by omega)⟩
    · exact ⟨q, hr.bind (Ter.ifn (by omega) (Ter.bind (F := fun _ => laws_szIntS.f l r) (Ter.const hq) (Ter.ifn (by omega) (Ter.ret _)))), .inr ⟨by omega, by omega, h3, h4, h7⟩⟩

theorem toArena_is {m : List (List Int)} {a s n c u : Int} {l : List Int} (h : Small m) (hz : ∀ z ∈ m, Small z) (hl : Small l) : Ter (fun k => laws_toArena.f k m a s n c u l) (m, a, s, n, c, u, l) := by
  unfold laws_toArena.f
  exact (toMemory_is h hz).bind (Ter.bind (F := fun _ => laws_toWindow.f a s n c) (a := (a, s, n, c)) (Ter.ret _) ((toIntS_is hl).bind (Ter.ret _)))

theorem eqArena_is {m : List (List Int)} {a s n c u : Int} {l : List Int} (h : Small m) (hz : ∀ z ∈ m, Small z) (hl : Small l) : Ter (fun k => laws_eqArena.f k m a s n c u l m a s n c u l) true := by
  unfold laws_eqArena.f
  refine (eqMemory_is ⟨by have := h.le; rw [maxLen_]; omega, fun z hz1 => by have := (hz z hz1).le; rw [maxLen_]; omega⟩).bind (Ter.ifp rfl (Ter.bind (F := fun _ => laws_eqWindow.f a s n c a s n c) (Ter.const (eqWindow_is _ _ _ _)) (Ter.ifp rfl ?_)))
  simp only [if_true]
  exact (eqIntS_is (by have := hl.le; rw [maxLen_]; omega)).bind (Ter.ifp rfl (Ter.ret _))
end Go.Proofs.Ythlppjdlljofdaa.P
