/- Part 1 of the proof of FnExactGiveZero: contracts of functions that the law reaches. Conditions: none. -/
import Derived.Test.YtmkcbbbknbahgaaCFnExactGiveZero0
import Derived.WalkSpells
namespace Go.Proofs.Ytmkcbbbknbahgaa.P
open Go.RowKit Go.Proofs.YtmkcbbbknbahgaaW.PrintWords Go.Proofs.YtmkcbbbknbahgaaW.PrintLast Go.Proofs.YtmkcbbbknbahgaaW.PrintMore
set_option linter.unusedVariables false
set_option linter.unusedSimpArgs false

/-- Giving one behind the other: the number of used bytes, the windows, and whether there was room for all. -/
def giveRun (a1 a2 a3 : Int) : List S74 → Int → List S32 → Int × List S32 × Bool
  | [], u, out => (u, out, true)
  | q :: qs, u, out => if q.f0 > wrap64 (a3 - beginF u q.f1) then (u, [], false) else giveRun a1 a2 a3 qs (wrap64 (beginF u q.f1 + q.f0)) (out ++ [⟨a1, wrap64 (a2 + beginF u q.f1), q.f0, q.f0⟩])

set_option maxHeartbeats 8000000 in
set_option maxRecDepth 100000 in
theorem giveAll_calls (g : Nat) (A0 : Option Addr) (n0 c0 : Nat) (a1 a2 a3 a4 a5 : Int) (A6 : Option Addr) (n6 c6 : Nat) (A1 : Option Addr) (c1 : Nat) (l1 : List S74) (w0 w : World) (hB : Below w0.heap.size w0 w) (hg0 : w0.heap.size ≤ g)
    (hb : w.heap[g]? = some (.cells #[.slice A0 n0 c0, .int .i64 a1, .int .i64 a2, .int .i64 a3, .int .i64 a4, .int .i64 a5, .slice A6 n6 c6] 70 (0, 0))) (hR : Kd.C k74 w0 A1 l1.length l1) (hq : ∀ q ∈ l1, q.f1 ≠ 0) (hl : l1.length ≤ 1048576) :
    Calls Try.prog 111 #[.pointer (some ⟨g, 0, none⟩), .slice A1 l1.length c1] w fun e w' => ∃ v, e = .returned (.tuple #[v, .bool (giveRun a1 a2 a3 l1 a5 []).2.2]) ∧ Kd.R k32 32 w' w.heap.size (fun _ => True) v (giveRun a1 a2 a3 l1 a5 []).2.1 ∧
      w'.heap[g]? = some (.cells #[.slice A0 n0 c0, .int .i64 a1, .int .i64 a2, .int .i64 a3, .int .i64 a4, .int .i64 (giveRun a1 a2 a3 l1 a5 []).1, .slice A6 n6 c6] 70 (0, 0)) ∧ w.grownBy w' (some g) := by
  have hu1 := Try.underlying70
  have hu2 := Try.underlying74
  have hu3 := Try.underlying32
  have HG := Aside0.mk (blk_lt hb)
  have HG0 := Aside0.mk hg0
  have HR := Aside0.mk hR
  have HBK := Aside0.mk hb
  have HB0 := Aside0.mk hB
  have HQ := Aside0.mk hq
  clear hB hg0 hb hR hq
  go_enter Try.func111, Try.ntmps111
  go_wp2_with (first | ((with_reducible refine gate_dst (N := 11) rfl ?_); refine Kd.R_lit k32 _ 32 ?hg (N := 11) ?hd (xs := ([] : List S32)) (inner := []) (ok := fun _ => True) (okp := fun _ => True) ?hr ?hp (fun _ hk => hk) trivial (Below.refl _ _) (Nat.le_refl _) (by simp) ?_; (case hd => rfl); (case hg => rfl); (case hr => first | (go_simp; done) | (go_simp; rfl)); (case hp => exact Reps.none _ _); intro v0 w1 ho hb1 hg1 hn1; have HO := Aside0.mk ho; have HGr := Aside0.mk (grown_but hg1 (some g)); have HBK1 := Aside0.mk ((hg1.block g HG.out (by simp)).trans HBK.out); clear ho hb1 hg1 hn1))
  go_loopg [6, 14] l1.length (fun gg s6 s14 wr => ∃ (i : Nat) (u : Int) (out : List S32), s14 = .int .i64 (i : Int) ∧ Aside0 (i ≤ l1.length) ∧ Aside0 (l1.length ≤ gg + i) ∧ Aside0 (giveRun a1 a2 a3 l1 a5 [] = giveRun a1 a2 a3 (l1.drop i) u out) ∧ Aside0 (out.length = i) ∧ Aside0 (wr.heap[g]? = some (.cells #[.slice A0 n0 c0, .int .i64 a1, .int .i64 a2, .int .i64 a3, .int .i64 a4, .int .i64 u, .slice A6 n6 c6] 70 (0, 0))) ∧ Aside0 (Kd.R k32 32 wr w.heap.size (fun _ => True) s6 out) ∧ Aside0 (w.grownBy wr (some g)))
  case atStart => exact ⟨0, a5, [], rfl, ⟨by omega⟩, ⟨by omega⟩, ⟨rfl⟩, ⟨rfl⟩, HBK1, HO, HGr⟩
  case round =>
    clear HBK1 HO HGr
    obtain ⟨i, u, out, rfl, H0, H1, HI, HL, HBK, HO, HGr⟩ := hrel
    have HB1 := Aside0.mk (show Below w0.heap.size w0 wr from ⟨HGr.out.os.trans HB0.out.os, HGr.out.tape.trans HB0.out.tape, HGr.out.output.trans HB0.out.output, Nat.le_trans HB0.out.size HGr.out.size, fun k hk => (HGr.out.block k (Nat.lt_of_lt_of_le hk HB0.out.size) (fun e => by have := HG0.out; cases e; omega)).trans (HB0.out.block k hk)⟩)
    by_cases hlt : i < l1.length
    · have hd : decide ((i : Int) < (l1.length : Int)) = true := decide_eq_true (by omega)
      obtain ⟨ad, e, hx0, hx1⟩ := at_T74 (Kd.C_below HR.out HB1.out) (i : Int) (by omega) (by omega)
      cases e
      have hget : rd_T74 l1 (i : Int) = l1[i] := by unfold rd_T74; rw [Int.toNat_natCast, List.getD_eq_getElem?_getD, List.getElem?_eq_getElem hlt]; rfl
      rw [hget] at hx0 hx1
      rw [Int.toNat_natCast] at hx0 hx1
      have hqi := HQ.out _ (List.getElem_mem hlt)
      have hlti : ((i : Int) < (l1.length : Int)) = True := eq_true (by omega)
      have hnn : (0 ≤ (i : Int)) = True := eq_true (by omega)
      generalize hqe : l1[i] = q at hx0 hx1 hqi
      have HQE := Aside0.mk hqe
      clear hqe hget
      go_wp2_with fail
      have HA := Below.alloc (Below.refl wr.heap.size wr) (Nat.le_refl _) (.cells #[.int .i64 q.f0, .int .i64 q.f1] 74)
      have HBKa := blk_below HBK.out HA
      have HOa := Aside0.mk (Kd.R_below HO.out HA)
      have HGa := Aside0.mk (HGr.out.trans (grown_but (grown_below HA) (some g)))
      have Z1 := Aside0.mk (show w.heap.size ≤ (wr.alloc (.cells #[.int .i64 q.f0, .int .i64 q.f1] 74)).heap.size from HGa.out.size)
      clear HA
      have hstep : giveRun a1 a2 a3 (l1.drop i) u out = if q.f0 > wrap64 (a3 - beginF u q.f1) then (u, [], false) else giveRun a1 a2 a3 (l1.drop (i + 1)) (wrap64 (beginF u q.f1 + q.f0)) (out ++ [⟨a1, wrap64 (a2 + beginF u q.f1), q.f0, q.f0⟩]) := by
        rw [List.drop_eq_getElem_cons hlt, HQE.out]
        rfl
      have HS := Aside0.mk hstep
      clear hstep
      by_cases hno : q.f0 > wrap64 (a3 - beginF u q.f1)
      · have e1 := HI.out.trans (HS.out.trans (if_pos hno))
        refine (give_no g A0 n0 c0 a1 a2 a3 a4 u A6 n6 c6 q.f0 q.f1 hqi hno _ HBKa).mono ?_
        rintro e w' ⟨rfl, hb⟩
        have HBK2 := Aside0.mk (blk_below HBKa hb)
        have HG2 := Aside0.mk (HGa.out.trans (grown_but (grown_below hb) (some g)))
        clear hb HBKa HBK HGr HO HOa
        have HE := Aside0.mk e1
        clear e1 HI HS
        go_wp2_with fail
        go_ret2
        rw [HE.out]
        exact ⟨_, rfl, Kd.R_nil _ _ _ _ _, by (with_reducible repeat (first | refine blk_drewN ?_ _ | refine blk_drew ?_ | refine blk_alloc ?_ _)); exact HBK2.out, HG2.out.trans (grown_but (grown_below (by repeat (first | (with_reducible first | exact Below.refl _ _ | apply below_alloc | apply pw_below_drewN | apply below_drew1) | exact Below.refl _ _))) (some g))⟩
      · have e1 := HI.out.trans (HS.out.trans (if_neg hno))
        refine (give_yes g A0 n0 c0 a1 a2 a3 a4 u A6 n6 c6 q.f0 q.f1 hqi hno _ HBKa).mono ?_
        rintro e w' ⟨rfl, hbk, hg⟩
        have HBK2 := Aside0.mk hbk
        have HO2 := Aside0.mk (Kd.R_over' (v := .slice (some ⟨g, 0, none⟩) 0 0) HOa.out (fun k hk => by cases hk; exact ⟨_, HBKa⟩) (by decide) hg)
        have HG2 := Aside0.mk (HGa.out.trans hg)
        have HE := Aside0.mk e1
        clear hbk hg HBKa HBK HGr HO HOa e1 HI HS hno
        have HAw := Below.alloc (Below.refl w'.heap.size w') (Nat.le_refl _) (.cells #[.int .i64 a1, .int .i64 (wrap64 (a2 + beginF u q.f1)), .int .i64 q.f0, .int .i64 q.f0] 32)
        have HO3 := Aside0.mk (Kd.R_below HO2.out HAw)
        have HBK3 := Aside0.mk (blk_below HBK2.out HAw)
        have HG3 := Aside0.mk (HG2.out.trans (grown_but (grown_below HAw) (some g)))
        clear HAw HO2 HBK2 HG2
        have hlen : (out.length + 1) * 32 ≤ 140737488355328 := by have := HL.out; omega
        have HLen := Aside0.mk hlen
        clear hlen
        go_wp2_with (first | ((with_reducible refine gate_builtin (b := .append) (xs := #[.tmp 26, .tmp 28]) rfl ?_); at_builtin; refine Kd.R_append k32 w.heap.size rfl (.tmp 26) (.tmp 28) 82 32 (.agg #[(.int .i64 0), (.int .i64 0), (.int .i64 0), (.int .i64 0)]) 32 rfl Try.underlying82 info32 rfl (by decide) (by omega) u6 out (⟨a1, wrap64 (a2 + beginF u q.f1), q.f0, q.f0⟩ : S32) [.int .i64 a1, .int .i64 (wrap64 (a2 + beginF u q.f1)), .int .i64 q.f0, .int .i64 q.f0] (fun _ => True) (fun _ => False) rfl (by first | (go_simp; done) | (go_simp; rfl)) ?aP (fun _ hk => hk.elim) (fun _ _ => trivial) ?aO (Below.refl _ _) ?aS ?aL ?_; (case aP => exact k32_mkM _ _ _ (⟨a1, wrap64 (a2 + beginF u q.f1), q.f0, q.f0⟩ : S32)); (case aO => exact HO3.out); (case aS => exact HG3.out.size); (case aL => exact HLen.out); intro v5 w5 ho5 hb5 hg5 hn5; have HO5 := Aside0.mk ho5; have HG5 := Aside0.mk hg5; clear ho5 hb5 hg5 hn5))
        have hbase := Kd.R_base HO3.out
        have hneg : some g ≠ u6.ownBlock := fun e => by have := hbase g e.symm; have := HG.out; omega
        have HBK5 := Aside0.mk ((HG5.out.block g (blk_lt HBK3.out) hneg).trans HBK3.out)
        have HG6 := Aside0.mk (show w.grownBy w5 (some g) from ⟨HG5.out.os.trans HG3.out.os, HG5.out.tape.trans HG3.out.tape, HG5.out.output.trans HG3.out.output, Nat.le_trans HG3.out.size HG5.out.size, fun k hk hne => (HG5.out.block k (Nat.lt_of_lt_of_le hk HG3.out.size) (fun e => by have := hbase k e.symm; omega)).trans (HG3.out.block k hk hne)⟩)
        clear hbase hneg HG5 HBK3 HG3 HO3 hx0 hx1 hlti hnn hd
        go_roundg (l1.length - (i + 1))
        case measure => have := H1.out; omega
        case rel => exact ⟨i + 1, wrap64 (beginF u q.f1 + q.f0), out ++ [⟨a1, wrap64 (a2 + beginF u q.f1), q.f0, q.f0⟩], by simp, ⟨by omega⟩, ⟨by have := H1.out; omega⟩, HE, ⟨by rw [List.length_append, HL.out]; rfl⟩, HBK5, HO5, HG6⟩
    · have hd : decide ((i : Int) < (l1.length : Int)) = false := decide_eq_false (by omega)
      have e1 := HI.out
      rw [List.drop_eq_nil_of_le (by omega)] at e1
      have e2 : giveRun a1 a2 a3 l1 a5 [] = (u, out, true) := e1
      have HE := Aside0.mk e2
      clear e1 e2 HI
      go_wp2
      go_ret2
      rw [HE.out]
      exact ⟨_, rfl, HO.out, HBK.out, HGr.out⟩
end Go.Proofs.Ytmkcbbbknbahgaa.P
namespace Go.Proofs.Ytmkcbbbknbahgaa.P
open Go.RowKit Go.Proofs.YtmkcbbbknbahgaaW.PrintWords Go.Proofs.YtmkcbbbknbahgaaW.PrintLast Go.Proofs.YtmkcbbbknbahgaaW.PrintMore
set_option linter.unusedVariables false
set_option linter.unusedSimpArgs false

def slices_Clone_byte.f (l0 : List Int) : Option (List Int) := if l0.length < 140737488355328 then some l0 else none

set_option maxHeartbeats 8000000 in
set_option maxRecDepth 100000 in
theorem slices_Clone_byte.calls (A0 : Option Addr) (c0 : Nat) (l0 : List Int) (r : List Int) (w : World) (hr0 : Kd.C (Kd.int .u8) w A0 l0.length l0) (hc0 : l0.length ≤ c0) (h : slices_Clone_byte.f l0 = some r) :
    Calls Try.prog 161 #[.slice A0 l0.length c0] w fun e w' => ∃ v0_ : Value, e = .returned (v0_) ∧ Kd.R (Kd.int .u8) 5 w' w.heap.size (fun _ => True) v0_ r ∧ Below w.heap.size w w' := by
  have hsn := fun (W : World) (a : Option Addr) (n c : Nat) => Lib.run_eql_slice_nil (P := Try.prog) W 29 5 a n c 0 0 Try.underlying29
  unfold slices_Clone_byte.f at h
  by_cases hl : l0.length < 140737488355328
  · rw [if_pos hl] at h
    obtain rfl := Option.some.inj h
    clear h
    have HL := Aside0.mk hl
    clear hl
    cases A0 with
    | none =>
      have h0 : l0.length = 0 := by
        rcases Nat.eq_zero_or_pos l0.length with h | h
        · exact h
        · obtain ⟨ad, he, _⟩ := hr0.2.2 h
          cases he
      have hl0 : l0 = [] := List.length_eq_zero_iff.1 h0
      subst hl0
      clear hr0 h0
      go_enter Try.func161, Try.ntmps161
      go_wp2
      go_ret
      exact ⟨_, rfl, Kd.R_nil _ _ _ _ _, Below.refl _ _⟩
    | some ad =>
      have HR0 := Aside0.mk hr0
      have HC0 := Aside0.mk hc0
      clear hr0 hc0
      have HB := Aside0.mk (Below.refl w.heap.size w)
      go_enter Try.func161, Try.ntmps161
      go_wp2_with (first | ((with_reducible refine gate_dst (N := 5) rfl ?_); refine Kd.R_lit (Kd.int .u8) _ 5 ?hg (N := 5) ?hd (xs := ([] : List Int)) (inner := []) (ok := fun _ => True) (okp := fun _ => True) ?hr ?hp (fun _ hk => hk) trivial (Below.refl _ _) (Nat.le_refl _) (by simp) ?_; (case hd => rfl); (case hg => rfl); (case hr => first | (go_simp; done) | (go_simp; rfl)); (case hp => exact (Reps.none _ _)); intro v143 w3 ho4 hb hg_ hnew_; clear hg_ hnew_; have HO144 := Aside0.mk ho4; have n1_ := Aside0.mk (below_step HB.out hb); clear HB; have HB := n1_; clear n1_; clear hb ho4) | ((with_reducible refine gate_builtin (b := .append) (xs := #[.tmp 5, .tmp 6]) rfl ?_); at_builtin; refine Kd.R_append_rows (Kd.int .u8) (w0 := w) w.heap.size rfl (.tmp 5) (.tmp 6) 29 5 (.int .u8 0) 1 rfl Try.underlying29 info5 rfl (by decide) (by omega) v143 [] l0 _ _ _ (fun _ => True) (fun _ => False) rfl rfl ?aO ?aR (fun _ _ h => h) (fun _ h => h.elim) ?aF ?aB ?aS ?aL ?_; (case aR => exact Kd.C_below HR0.out HB.out); (case aB => exact HB.out); (case aF => exact (fun _ _ => trivial)); (case aO => exact HO144.out); (case aS => exact (below_size HB.out)); (case aL => have := HL.out; simp only [List.length_nil]; omega); intro v146 w5 ho hb hg hat; have n0_ := Aside0.mk (hb); have n1_ := Aside0.mk (ho); clear HB; clear HO144; have HB := n0_; have HO147 := n1_; clear n0_ n1_; clear ho hb hg hat))
      go_ret
      exact ⟨_, rfl, HO147.out, HB.out⟩
  · rw [if_neg hl] at h
    exact absurd h (by simp)

def slices_Clone_int.f (l0 : List Int) : Option (List Int) := if l0.length < 17592186044416 then some l0 else none

set_option maxHeartbeats 8000000 in
set_option maxRecDepth 100000 in
theorem slices_Clone_int.calls (A0 : Option Addr) (c0 : Nat) (l0 : List Int) (r : List Int) (w : World) (hr0 : Kd.C (Kd.int .i64) w A0 l0.length l0) (hc0 : l0.length ≤ c0) (h : slices_Clone_int.f l0 = some r) :
    Calls Try.prog 156 #[.slice A0 l0.length c0] w fun e w' => ∃ v0_ : Value, e = .returned (v0_) ∧ Kd.R (Kd.int .i64) 3 w' w.heap.size (fun _ => True) v0_ r ∧ Below w.heap.size w w' := by
  have hsn := fun (W : World) (a : Option Addr) (n c : Nat) => Lib.run_eql_slice_nil (P := Try.prog) W 63 3 a n c 0 0 Try.underlying63
  unfold slices_Clone_int.f at h
  by_cases hl : l0.length < 17592186044416
  · rw [if_pos hl] at h
    obtain rfl := Option.some.inj h
    clear h
    have HL := Aside0.mk hl
    clear hl
    cases A0 with
    | none =>
      have h0 : l0.length = 0 := by
        rcases Nat.eq_zero_or_pos l0.length with h | h
        · exact h
        · obtain ⟨ad, he, _⟩ := hr0.2.2 h
          cases he
      have hl0 : l0 = [] := List.length_eq_zero_iff.1 h0
      subst hl0
      clear hr0 h0
      go_enter Try.func156, Try.ntmps156
      go_wp2
      go_ret
      exact ⟨_, rfl, Kd.R_nil _ _ _ _ _, Below.refl _ _⟩
    | some ad =>
      have HR0 := Aside0.mk hr0
      have HC0 := Aside0.mk hc0
      clear hr0 hc0
      have HB := Aside0.mk (Below.refl w.heap.size w)
      go_enter Try.func156, Try.ntmps156
      go_wp2_with (first | ((with_reducible refine gate_dst (N := 5) rfl ?_); refine Kd.R_lit (Kd.int .i64) _ 3 ?hg (N := 5) ?hd (xs := ([] : List Int)) (inner := []) (ok := fun _ => True) (okp := fun _ => True) ?hr ?hp (fun _ hk => hk) trivial (Below.refl _ _) (Nat.le_refl _) (by simp) ?_; (case hd => rfl); (case hg => rfl); (case hr => first | (go_simp; done) | (go_simp; rfl)); (case hp => exact (Reps.none _ _)); intro v143 w3 ho4 hb hg_ hnew_; clear hg_ hnew_; have HO144 := Aside0.mk ho4; have n1_ := Aside0.mk (below_step HB.out hb); clear HB; have HB := n1_; clear n1_; clear hb ho4) | ((with_reducible refine gate_builtin (b := .append) (xs := #[.tmp 5, .tmp 6]) rfl ?_); at_builtin; refine Kd.R_append_rows (Kd.int .i64) (w0 := w) w.heap.size rfl (.tmp 5) (.tmp 6) 63 3 (.int .i64 0) 8 rfl Try.underlying63 info3 rfl (by decide) (by omega) v143 [] l0 _ _ _ (fun _ => True) (fun _ => False) rfl rfl ?aO ?aR (fun _ _ h => h) (fun _ h => h.elim) ?aF ?aB ?aS ?aL ?_; (case aR => exact Kd.C_below HR0.out HB.out); (case aB => exact HB.out); (case aF => exact (fun _ _ => trivial)); (case aO => exact HO144.out); (case aS => exact (below_size HB.out)); (case aL => have := HL.out; simp only [List.length_nil]; omega); intro v146 w5 ho hb hg hat; have n0_ := Aside0.mk (hb); have n1_ := Aside0.mk (ho); clear HB; clear HO144; have HB := n0_; have HO147 := n1_; clear n0_ n1_; clear ho hb hg hat))
      go_ret
      exact ⟨_, rfl, HO147.out, HB.out⟩
  · rw [if_neg hl] at h
    exact absurd h (by simp)
end Go.Proofs.Ytmkcbbbknbahgaa.P
namespace Go.Proofs.Ytmkcbbbknbahgaa.P
open Go.RowKit Go.Proofs.YtmkcbbbknbahgaaW.PrintWords Go.Proofs.YtmkcbbbknbahgaaW.PrintLast Go.Proofs.YtmkcbbbknbahgaaW.PrintMore
attribute [local go_sem] max2_int min2_int max_two min_two max_three min_three max_four min_four   -- for this text's walks alone
set_option linter.unusedVariables false
set_option linter.unusedSimpArgs false

def impl_Memory_own.l0 : Nat → List (List Int) → Int → Int → List (List Int) → Option ((List (List Int)))
 | 0, _, _, _, _ => none
 | k + 1, x8, x9, x10, x317000 => if x10 < x9 then (if 0 ≤ x10 then (if x10 < (x8.length : Int) then ((slices_Clone_byte.f (rd_L1 x8 x10)).bind fun t318 => (if x317000.length < 5864062014805 then (impl_Memory_own.l0 k x8 x9 (wrap64 (x10 + 1)) (x317000 ++ [t318])) else (none))) else (none)) else (none)) else (some x317000)

def impl_Memory_own.f (k : Nat) (l0_0 : List (List Int)) : Option ((List (List Int))) := impl_Memory_own.l0 k l0_0 (l0_0.length : Int) 0 ([] : List (List Int))

def impl_Memory_own.T5 : Bool × List (List Nat × List Nat) := (true, [([], []), ([0], [0]), ([], []), ([2], [2]), ([3], [3]), ([1, 4, 3], [1, 4]), ([0, 1, 2, 3, 4, 5], []), ([6, 5, 5, 0, 1, 2, 3, 4, 5], [5, 6])])

def impl_Memory_own.B5 : List Nat := [0, 1, 0, 4, 12, 31, 63, 127]

theorem impl_Memory_own.tab5 : rtab .any (opsOf Try.f127 5) = impl_Memory_own.T5 := by kernel_rfl

theorem impl_Memory_own.bits5 : waitsOk impl_Memory_own.T5.2 impl_Memory_own.B5 = true := by kernel_rfl

set_option maxHeartbeats 8000000 in
set_option maxRecDepth 100000 in
theorem impl_Memory_own.calls (k : Nat) (A0_0 : Option Addr) (c0_0 : Nat) (l0_0 : List (List Int)) (r : List (List Int)) (w : World) (hr0_0 : Kd.C (Kd.slice 5 (Kd.int .u8)) w A0_0 l0_0.length l0_0) (hc0_0 : l0_0.length ≤ c0_0) (h : impl_Memory_own.f k l0_0 = some r) :
  Calls Try.prog 127 #[.agg #[.slice A0_0 l0_0.length c0_0]] w fun e w' => ∃ v0_ : Value, e = .returned (.agg #[v0_]) ∧ Kd.S (Kd.slice 5 (Kd.int .u8)) 29 w' w.heap.size (fun _ => True) v0_ r ∧ Below w.heap.size w w' := by
 have hu31 := Try.underlying31
 have HR0_0 := Aside0.mk hr0_0
 have HC0_0 := Aside0.mk hc0_0
 clear hr0_0 hc0_0
 have HB := Aside0.mk (Below.refl w.heap.size w)
 have H : (impl_Memory_own.l0 k l0_0 (l0_0.length : Int) 0 ([] : List (List Int))) = some r := h
 clear h
 have H' := Aside0.mk H
 clear H
 go_enter Try.func127, Try.ntmps127
 go_wp2_with (first | ((with_reducible refine gate_dst (N := 1) rfl ?_); refine box_event ?hg (N := 1) ?hd (cs := #[.slice A0_0 l0_0.length c0_0]) (t := 31) ?hr ?_; (case hd => rfl); (case hg => rfl); (case hr => exact gs_); intro gb314 hg w2 hbox hb; have BK314 := Aside0.mk (hbox); have GW314 := gE_ HB hg; have GE314 := gE_ HB hg; replace HB := Aside0.mk (below_step (by repeat (first | (with_reducible first | exact HB.out | apply ba_ | apply bn_ | apply bd_) | exact HB.out)) hb); clear hb hbox hg) | ((with_reducible refine gate_dst (N := 2) rfl ?_); refine box_event ?hg (N := 2) ?hd (cs := #[.slice none 0 0]) (t := 31) ?hr ?_; (case hd => rfl); (case hg => rfl); (case hr => exact gs_); intro gb315 hg w3 hbox hb; have BK315 := Aside0.mk (hbox); have GW315 := gE_ HB hg; have GE315 := gE_ HB hg; replace HB := Aside0.mk (below_step (by repeat (first | (with_reducible first | exact HB.out | apply ba_ | apply bn_ | apply bd_ | refine bset_ ?_ (by assumption)) | exact HB.out)) hb); have NB314_315 := nB_ BK314 hg; have NB315_314 := nA_ BK314 hg; replace BK314 := bB_ BK314 hb; clear hb hbox hg) | ((with_reducible refine gate_dst (N := 3) rfl ?_); refine box_event ?hg (N := 3) ?hd (cs := #[.slice none 0 0]) (t := 31) ?hr ?_; (case hd => rfl); (case hg => rfl); (case hr => exact gs_); intro gb316 hg w4 hbox hb; have BK316 := Aside0.mk (hbox); have GW316 := gE_ HB hg; have GE316 := gE_ HB hg; replace HB := Aside0.mk (below_step (by repeat (first | (with_reducible first | exact HB.out | apply ba_ | apply bn_ | apply bd_ | refine bset_ ?_ (by assumption)) | exact HB.out)) hb); have NB314_316 := nB_ BK314 hg; have NB316_314 := nA_ BK314 hg; replace BK314 := bB_ BK314 hb; have NB315_316 := nB_ BK315 hg; have NB316_315 := nA_ BK315 hg; replace BK315 := bB_ BK315 hb; clear hb hbox hg; have hnb5 := NB316_314.out; have hnc5 := NB314_316.out; have hnb6 := NB316_315.out; have hnc6 := NB315_316.out; obtain ⟨hcz7_0, hfz7_0⟩ := zc1_ BK316; have hnb8 := NB314_315.out; have hnc8 := NB315_314.out; obtain ⟨hcz9_0, hfz9_0⟩ := zc1_ BK314))
 go_loopg [10] k (fun kq v10 w' => ∃ (x10_1 : Int) (x317000_1 : List (List Int)) (u317000 : Value), v10 = .int .i64 x10_1 ∧ Aside0 (impl_Memory_own.l0 kq l0_0 (l0_0.length : Int) x10_1 x317000_1 = some r) ∧ Aside0 (kq ≤ k) ∧ Aside0 (Kd.S (Kd.slice 5 (Kd.int .u8)) 29 w' w.heap.size (fun _ => True) u317000 x317000_1) ∧ Aside0 (w'.heap[gb314]? = some (.cells #[(.slice A0_0 l0_0.length c0_0)] 31 (0, 0))) ∧ Aside0 (w'.heap[gb315]? = some (.cells #[(.slice none 0 0)] 31 (0, 0))) ∧ Aside0 (w'.heap[gb316]? = some (.cells #[u317000] 31 (0, 0))) ∧ Aside0 (Below w.heap.size w w'))
 case atStart => exact ⟨(0), (([] : List (List Int))), (.slice none 0 0), (by first | rfl | (simp; done) | (simp [*]; done)), H', ⟨Nat.le_refl _⟩, ⟨by first | exact Kd.S_nil _ _ _ _ _ | exact Kd.N_nil _ _ _ _ _ | exact Kd.V_nil _ _ _ _ _ | exact Kd.Q_nil _ _ _ _ _ | exact Kd.R_nil _ _ _ _ _⟩, ⟨by exact fB_ BK314⟩, ⟨by exact fB_ BK315⟩, ⟨by exact fB_ BK316⟩, ⟨by repeat (first | (with_reducible first | exact HB.out | apply below_alloc | apply pw_below_drewN | apply below_drew1 | refine below_set ?_ GE314.out | refine below_set ?_ GE315.out | refine below_set ?_ GE316.out) | exact HB.out)⟩⟩
 case round =>
  clear H'
  try clear c1
  try clear p2
  try clear c5
  try clear c6
  try clear c8
  try clear hcz7_0
  try clear hcz9_0
  try clear hfz7_0
  try clear hfz9_0
  obtain ⟨x10_1, x317000_1, u317000, rfl, HA, HK1, HO_317000, BK314, BK315, BK316, HB⟩ := hrel
  cases gk with
  | zero => exact absurd HA.out (by simp [impl_Memory_own.l0])
  | succ k1 =>
   have H := HA.out
   clear HA
   simp only [impl_Memory_own.l0] at H
   by_cases c10 : x10_1 < (l0_0.length : Int)
   ·rw [if_pos c10] at H
    have c10b0 : decide (x10_1 < (l0_0.length : Int)) = true := decide_eq_true c10
    clear c10
    by_cases c11 : 0 ≤ x10_1
    ·rw [if_pos c11] at H
     have c11b0 : decide (0 ≤ x10_1) = true := decide_eq_true c11
     clear c11
     by_cases c12 : x10_1 < (l0_0.length : Int)
     ·rw [if_pos c12] at H
      have c12b0 : decide (x10_1 < (l0_0.length : Int)) = true := decide_eq_true c12
      clear c12
      replace H := Option.bind_eq_some_iff.mp H
      obtain ⟨t318, A130, H⟩ := H
      replace H : (if x317000_1.length < 5864062014805 then (impl_Memory_own.l0 k1 l0_0 (l0_0.length : Int) (wrap64 (x10_1 + 1)) (x317000_1 ++ [t318])) else (none)) = some r := H
      have A13 := Aside0.mk A130
      clear A130
      by_cases c14 : x317000_1.length < 5864062014805
      ·rw [if_pos c14] at H
       have LMc14 := Aside0.mk c14
       clear c14
       obtain ⟨y321, hy321⟩ : ∃ y_ : List (List Int), y_ = (x317000_1 ++ [t318]) := ⟨_, rfl⟩
       replace H : (impl_Memory_own.l0 k1 l0_0 (l0_0.length : Int) (wrap64 (x10_1 + 1)) y321) = some r := by first | (rw [hy321]; with_reducible exact H) | (have H2_ := (Option.bind_some _ _).symm.trans H; rw [hy321]; with_reducible exact H2_) | (have H2_ := (Option.bind_some _ _).symm.trans H; with_reducible exact H2_) | with_reducible exact H | (rw [hy321]; exact H) | exact H
       have Ny321 := Aside0.mk hy321
       clear hy321
       have H' := Aside0.mk H
       clear H
       have p317 : 0 ≤ (x10_1 : Int) := of_decide_eq_true as_
       have q317 : x10_1 < (l0_0.length : Int) := of_decide_eq_true as_
       obtain ⟨ad317, A317_0, c317_0, e317, hx317_0, hl317_0, hi317_0⟩ := at_L1 HR0_0.out x10_1 p317 q317
       cases e317
       replace hx317_0 := (HB.out.cell (World.block_lt_of_cell? w _ hx317_0)).trans hx317_0
       have HR317_0 := Aside0.mk hi317_0
       have HC317_0 := Aside0.mk hl317_0
       clear hi317_0 hl317_0
       replace p317 := eq_true p317
       replace q317 := eq_true q317
       try go_wp2
       replace HO_317000 := Aside0.mk (Kd.S_drew HO_317000.out)
       replace BK314 := Aside0.mk (blk_drew BK314.out)
       replace BK315 := Aside0.mk (blk_drew BK315.out)
       replace BK316 := Aside0.mk (blk_drew BK316.out)
       replace HB := Aside0.mk (below_drew1 HB.out)
       refine start_ (n := 8) (S := fun w' => w'.cell? ⟨gb316, 0, none⟩ = some (u317000)) (ds := [7]) #[false, false, false, false, false, false, false, false] (by kernel_rfl) rfl rfl ((blk_cell BK316.out 0).trans rfl) (fun hHeld => ?_); refine with_tabW impl_Memory_own.tab5 impl_Memory_own.bits5 (fun HT_ HW_ => ?_)
       generalize wr.drew = w15 at HO_317000 BK314 BK315 BK316 HB hHeld ⊢
       refine pure_ (i := 0) (N := some 14) (v := ?_) (a' := ?_) #[true, false, false, false, false, false, false, false] rfl rfl (any_of HT_.out (by kernel_rfl)) (fun _ _ _ h => h) (Or.inl ⟨by rfl, ?_⟩) ?_ ?_
       rotate_left
       ·intro w'
        go_simp
        with_reducible rfl
       rotate_left
       ·simp only [Act.put, List.setIfInBounds_toArray, List.set_cons_zero, List.set_cons_succ, i64_w, i32_w]
        rfl
       refine pure_ (i := 2) (N := some 16) (v := ?_) (a' := ?_) #[true, false, true, false, false, false, false, false] rfl rfl (any_of HT_.out (by kernel_rfl)) (fun _ _ _ h => h) (Or.inl ⟨by rfl, ?_⟩) ?_ ?_
       rotate_left
       ·intro w'
        go_simp
        with_reducible rfl
       rotate_left
       ·simp only [Act.put, List.setIfInBounds_toArray, List.set_cons_zero, List.set_cons_succ, i64_w, i32_w]
        rfl
       refine take_ (i := 1) (N := some 15) (v := ?_) (a' := ?_) #[true, true, true, false, false, false, false, false] rfl rfl (take_ofW HT_.out HW_.out (by kernel_rfl)) (fun _ _ _ h => h) (Or.inl ⟨by rfl, ?_⟩) hHeld ?_ ?_
       rotate_left
       ·intro w' s0
        go_simp
        with_reducible rfl
       rotate_left
       ·simp only [Act.put, List.setIfInBounds_toArray, List.set_cons_zero, List.set_cons_succ, i64_w, i32_w]
        rfl
       refine one_ (i := 3) (N := some 17) #[true, true, true, true, false, false, false, false] rfl rfl (one_of HT_.out (by kernel_rfl)) (by decide) (fun K hK => ?_)
       refine goes_ Try.func161 (by kernel_rfl) rfl #[.slice A317_0 (rd_L1 l0_0 x10_1).length c317_0] (by rfl) rfl rfl ar_ ?_
       with_reducible refine (slices_Clone_byte.calls _ _ (rd_L1 l0_0 x10_1) t318 _ ?side1 ?side2 A13.out).mono ?_
       (case side1 => exact cS_ (Kd.C_below HR317_0.out HB.out))
       (case side2 => exact HC317_0.out)
       rintro e w16 ⟨v319, rfl, ho0, hb⟩
       refine ⟨_, rfl, ?_⟩
       replace HO_317000 := Aside0.mk (Kd.S_elder' (sK_ HO_317000) (Kd.R_base ho0) hb)
       have HO320 := Aside0.mk (rL_ ho0 HB)
       replace BK314 := bB_ BK314 hb
       replace BK315 := bB_ BK315 hb
       replace BK316 := bB_ BK316 hb
       replace HB := Aside0.mk (below_step (by repeat (first | (with_reducible first | exact HB.out | apply ba_ | apply bn_ | apply bd_ | refine bset_ ?_ (by assumption)) | exact HB.out)) hb)
       (try clear hb)
       (try clear hb2)
       (try clear hk)
       (try clear hi)
       (try clear ho0)
       obtain ⟨Ao18, co18, eo18⟩ := Kd.R_slice HO320.out
       (first | subst eo18 | (injection eo18 with f1_ f2_ f3_; have f4_ := f1_.symm; have f5_ := f3_.symm; clear f1_ f2_ f3_; subst f4_; subst f5_))
       refine hK.out _ _ ((blk_cell BK316.out 0).trans rfl) (fun hHeld => ?_)
       clear hK K
       refine norm_ (a' := ?_) ?_ ?_
       rotate_left
       ·show Act.put _ (some 17) _ = _
        simp only [Act.put, List.setIfInBounds_toArray, List.set_cons_zero, List.set_cons_succ, i64_w, i32_w]
        rfl
       refine one_ (i := 4) (N := some 18) #[true, true, true, true, true, false, false, false] rfl rfl (one_of HT_.out (by kernel_rfl)) (by decide) (fun K hK => ?_)
       refine value_ (w1 := ?_) (v := ?_) (by rfl) rfl ?_ ?_
       rotate_left 2
       ·go_simp
        constructor
        ·rfl
        ·rfl
       refine hK.out _ _ ((blk_cell (blk_alloc BK316.out _) 0).trans rfl) (fun hHeld => ?_)
       clear hK K
       refine norm_ (a' := ?_) ?_ ?_
       rotate_left
       ·show Act.put _ (some 18) _ = _
        simp only [Act.put, List.setIfInBounds_toArray, List.set_cons_zero, List.set_cons_succ, i64_w, i32_w]
        rfl
       refine one_ (i := 5) (N := some 19) #[true, true, true, true, true, true, false, false] rfl rfl (one_of HT_.out (by kernel_rfl)) (by decide) (fun K hK => ?_)
       refine Kd.S_append_step (Kd.slice 5 (Kd.int .u8)) (w0 := w) w.heap.size (by rfl) (.tmp 15) (.tmp 18) 22 29 (.slice none 0 0) 24 rfl Try.underlying22 info29 rfl (by decide) (by omega) u317000 x317000_1 t318 [.slice Ao18 t318.length co18] (fun _ => True) (fun k_ => some k_ = (.slice Ao18 t318.length co18 : Value).ownBlock) rfl rfl ?aP (fun k_ hk_ => ((Kd.R_mono (ok' := fun k_ => ((fun _ => True)) k_ ∧ some k_ ≠ (u317000 : Value).ownBlock) (Kd.R_apart' (HO320.out) (Kd.S_typed HO_317000.out) (by decide)) (fun k_ hk => ⟨trivial, hk.2⟩))).1 k_ hk_.symm) ?aF ?aO ?aB ?aS ?aL ?_
       (case aP => exact Kd.M_row (Kd.R_mono (Kd.R_tight rfl (Kd.R_mono (ok' := fun k_ => ((fun _ => True)) k_ ∧ some k_ ≠ (u317000 : Value).ownBlock) (Kd.R_apart' (HO320.out) (Kd.S_typed HO_317000.out) (by decide)) (fun k_ hk => ⟨trivial, hk.2⟩))) (fun _ h_ => h_)))
       (case aB => exact (by repeat (first | (with_reducible first | exact HB.out | apply ba_ | apply bn_ | apply bd_ | refine bset_ ?_ (by assumption)) | exact HB.out)))
       (case aF => exact (fun _ _ => trivial))
       (case aO => exact (by (with_reducible repeat first | apply ks1_ | apply ks2_ | apply ks3_); exact Kd.S_mono HO_317000.out (fun k_ hk => ⟨trivial, fun e_ => hk.2 e_⟩)))
       (case aS => exact (below_size (by repeat (first | (with_reducible first | exact HB.out | apply ba_ | apply bn_ | apply bd_ | refine bset_ ?_ (by assumption)) | exact HB.out))))
       (case aL => have := LMc14.out; omega)
       intro v322 w17 ho hb hg hat
       rw [← Ny321.out] at ho
       replace BK314 := Aside0.mk (blk_grown (g := gb314) (o := .cells #[.slice (some ad317) l0_0.length c0_0] 31 (0, 0)) (bK_ BK314) hg (Kd.S_ne HO_317000.out BK314.out (by decide)))
       replace BK315 := Aside0.mk (blk_grown (g := gb315) (o := .cells #[.slice none 0 0] 31 (0, 0)) (bK_ BK315) hg (Kd.S_ne HO_317000.out BK315.out (by decide)))
       replace BK316 := Aside0.mk (blk_grown (g := gb316) (o := .cells #[u317000] 31 (0, 0)) (bK_ BK316) hg (Kd.S_ne HO_317000.out BK316.out (by decide)))
       replace HB := Aside0.mk (hb)
       have HO323 := Aside0.mk (ho)
       clear HO_317000 HO320
       clear ho hb hg hat
       obtain ⟨Ao19, co19, eo19⟩ := Kd.S_slice HO323.out
       (first | subst eo19 | (injection eo19 with f1_ f2_ f3_; have f4_ := f1_.symm; have f5_ := f3_.symm; clear f1_ f2_ f3_; subst f4_; subst f5_))
       refine hK.out _ _ ((blk_cell BK316.out 0).trans rfl) (fun hHeld => ?_)
       clear hK K
       refine norm_ (a' := ?_) ?_ ?_
       rotate_left
       ·show Act.put _ (some 19) _ = _
        simp only [Act.put, List.setIfInBounds_toArray, List.set_cons_zero, List.set_cons_succ, i64_w, i32_w]
        rfl
       refine pure_ (i := 6) (N := some 20) (v := ?_) (a' := ?_) #[true, true, true, true, true, true, true, false] rfl rfl (any_of HT_.out (by kernel_rfl)) (fun _ _ _ h => h) (Or.inl ⟨by rfl, ?_⟩) ?_ ?_
       rotate_left
       ·intro w'
        go_simp
        with_reducible rfl
       rotate_left
       ·simp only [Act.put, List.setIfInBounds_toArray, List.set_cons_zero, List.set_cons_succ, i64_w, i32_w]
        rfl
       refine last_ (i := 7) (N := none) #[true, true, true, true, true, true, true, true] rfl rfl (one_of HT_.out (by kernel_rfl)) (by decide) (fun K hK => ?_)
       have hs20 : w17.cell? ⟨gb316, 0, none⟩ = some (u317000) := (blk_cell BK316.out 0).trans rfl
       have hfs20 := blk_frozen BK316.out 0
       have hns20_0 := NB314_316.out
       have hns20_1 := NB315_316.out
       have hms20_0 := NB316_314.out
       have hms20_1 := NB316_315.out
       refine skip_ (w1 := ?_) (by rfl) rfl ?_ ?_
       rotate_left
       ·go_simp
        rfl
       refine hK.out _ _ ?_
       clear hK K
       refine done_ (done_of HT_.out (by kernel_rfl)) ?_
       try go_wp2
       go_roundg k1
       case measure => have := HK1.out; omega
       case rel => exact ⟨(wrap64 (x10_1 + 1)), (y321), (.slice Ao19 y321.length co19), (by first | rfl | (simp; done) | (simp [*]; done)), H', ⟨by have := HK1.out; omega⟩, ⟨by (with_reducible repeat first | apply ks1_ | apply ks2_ | apply ks3_); exact Kd.S_mono (sf1_ gb316 (Kd.S_types HO323.out BK316.out (by decide)) (fun _ hk => hk.2)) (fun _ hk => trivial)⟩, ⟨by exact fB_ BK314⟩, ⟨by exact fB_ BK315⟩, ⟨by exact fB_ BK316⟩, ⟨by repeat (first | (with_reducible first | exact HB.out | apply below_alloc | apply pw_below_drewN | apply below_drew1 | refine below_set ?_ GE314.out | refine below_set ?_ GE315.out | refine below_set ?_ GE316.out) | exact HB.out)⟩⟩
      ·rw [if_neg c14] at H
       exact absurd H (by simp)
     ·rw [if_neg c12] at H
      exact absurd H (by simp)
    ·rw [if_neg c11] at H
     exact absurd H (by simp)
   ·rw [if_neg c10] at H
    have c10b0 : decide (x10_1 < (l0_0.length : Int)) = false := decide_eq_false c10
    clear c10
    obtain rfl := Option.some.inj H
    have hnb21 := NB316_314.out
    have hnc21 := NB314_316.out
    have hnb22 := NB316_315.out
    have hnc22 := NB315_316.out
    obtain ⟨hcz23_0, hfz23_0⟩ := zc1_ BK316
    obtain ⟨Ao24, co24, eo24⟩ := Kd.S_slice HO_317000.out
    subst eo24
    have hnb25 := NB315_314.out
    have hnc25 := NB314_315.out
    obtain ⟨hcz26_0, hfz26_0⟩ := zc1_ BK315
    go_wp2
    refine bodyPost_ret (results_cell_row rfl _ _ gb315 31 #[.slice Ao24 x317000_1.length co24] (0, 0) _ rfl (by exact fB_ BK315) Try.underlying31 rfl (by kernel_rfl)) rfl ?_
    exact ⟨_, er_, by (with_reducible repeat first | apply ks1_ | apply ks2_ | apply ks3_); exact Kd.S_mono (sf1_ gb315 (Kd.S_types HO_317000.out BK315.out (by decide)) (fun _ hk => hk.2)) (fun _ hk => trivial), by repeat (first | (with_reducible first | exact HB.out | apply below_alloc | apply pw_below_drewN | apply below_drew1 | refine below_set ?_ GE314.out | refine below_set ?_ GE315.out | refine below_set ?_ GE316.out) | exact HB.out)⟩
end Go.Proofs.Ytmkcbbbknbahgaa.P
namespace Go.Proofs.Ytmkcbbbknbahgaa.P
open Go.RowKit Go.Proofs.YtmkcbbbknbahgaaW.PrintWords Go.Proofs.YtmkcbbbknbahgaaW.PrintLast Go.Proofs.YtmkcbbbknbahgaaW.PrintMore
attribute [local go_sem] max2_int min2_int max_two min_two max_three min_three max_four min_four   -- for this text's walks alone
set_option linter.unusedVariables false
set_option linter.unusedSimpArgs false

def impl_Arena_own.f (k : Nat) (l0_0 : List (List Int)) (a0_1 : Int) (a0_2 : Int) (a0_3 : Int) (a0_4 : Int) (a0_5 : Int) (l0_6 : List Int) : Option ((List (List Int)) × Int × Int × Int × Int × Int × List Int) := (impl_Memory_own.f k l0_0).bind fun t780 => ((slices_Clone_int.f l0_6).bind fun t783 => (some (t780, a0_1, a0_2, a0_3, a0_4, a0_5, t783)))

def impl_Arena_own.T1 : Bool × List (List Nat × List Nat) := (true, [([], []), ([0], [0]), ([1], [1]), ([], []), ([3], [3]), ([4, 2], [4]), ([0, 1, 2, 3, 4], []), ([6, 2, 5, 0, 1, 2, 3, 4], [2, 6]), ([0, 1, 2, 3, 4, 5, 6, 7], []), ([8, 5, 7, 0, 1, 2, 3, 4, 5, 6, 7], [5, 8])])

def impl_Arena_own.B1 : List Nat := [0, 1, 3, 0, 8, 31, 31, 127, 255, 511]

theorem impl_Arena_own.tab1 : rtab .any (opsOf Try.f110 1) = impl_Arena_own.T1 := by kernel_rfl

theorem impl_Arena_own.bits1 : waitsOk impl_Arena_own.T1.2 impl_Arena_own.B1 = true := by kernel_rfl

set_option maxHeartbeats 8000000 in
set_option maxRecDepth 100000 in
theorem impl_Arena_own.calls (k : Nat) (A0_0 : Option Addr) (c0_0 : Nat) (l0_0 : List (List Int)) (a0_1 : Int) (a0_2 : Int) (a0_3 : Int) (a0_4 : Int) (a0_5 : Int) (A0_6 : Option Addr) (c0_6 : Nat) (l0_6 : List Int) (r1 : List (List Int)) (r2 : Int) (r3 : Int) (r4 : Int) (r5 : Int) (r6 : Int) (r7 : List Int) (w : World) (hr0_0 : Kd.C (Kd.slice 5 (Kd.int .u8)) w A0_0 l0_0.length l0_0) (hc0_0 : l0_0.length ≤ c0_0) (hr0_6 : Kd.C (Kd.int .i64) w A0_6 l0_6.length l0_6) (hc0_6 : l0_6.length ≤ c0_6) (h : impl_Arena_own.f k l0_0 a0_1 a0_2 a0_3 a0_4 a0_5 l0_6 = some (r1, r2, r3, r4, r5, r6, r7)) :
  Calls Try.prog 110 #[.agg #[.slice A0_0 l0_0.length c0_0, .int .i64 a0_1, .int .i64 a0_2, .int .i64 a0_3, .int .i64 a0_4, .int .i64 a0_5, .slice A0_6 l0_6.length c0_6]] w fun e w' => ∃ v0_ v6_ : Value, e = .returned (.agg #[v0_, .int .i64 r2, .int .i64 r3, .int .i64 r4, .int .i64 r5, .int .i64 r6, v6_]) ∧ Kd.S (Kd.slice 5 (Kd.int .u8)) 29 w' w.heap.size (fun _ => True) v0_ r1 ∧ Kd.R (Kd.int .i64) 3 w' w.heap.size (fun _ => True) v6_ r7 ∧ Below w.heap.size w w' := by
 have hu70 := Try.underlying70
 have hu31 := Try.underlying31
 have HR0_0 := Aside0.mk hr0_0
 have HC0_0 := Aside0.mk hc0_0
 clear hr0_0 hc0_0
 have HR0_6 := Aside0.mk hr0_6
 have HC0_6 := Aside0.mk hc0_6
 clear hr0_6 hc0_6
 have HB := Aside0.mk (Below.refl w.heap.size w)
 have H : ((impl_Memory_own.f k l0_0).bind fun t780 => ((slices_Clone_int.f l0_6).bind fun t783 => (some (t780, a0_1, a0_2, a0_3, a0_4, a0_5, t783)))) = some (r1, r2, r3, r4, r5, r6, r7) := h
 clear h
 replace H := Option.bind_eq_some_iff.mp H
 obtain ⟨t780, A20, H⟩ := H
 replace H : ((slices_Clone_int.f l0_6).bind fun t783 => (some (t780, a0_1, a0_2, a0_3, a0_4, a0_5, t783))) = some (r1, r2, r3, r4, r5, r6, r7) := H
 have A2 := Aside0.mk A20
 clear A20
 replace H := Option.bind_eq_some_iff.mp H
 obtain ⟨t783, A30, H⟩ := H
 replace H : (some (t780, a0_1, a0_2, a0_3, a0_4, a0_5, t783)) = some (r1, r2, r3, r4, r5, r6, r7) := H
 have A3 := Aside0.mk A30
 clear A30
 simp only [Option.some.injEq, Prod.mk.injEq] at H
 obtain ⟨rfl, rfl, rfl, rfl, rfl, rfl, rfl⟩ := H
 go_enter Try.func110, Try.ntmps110
 try go_wp2_with (first | ((with_reducible refine gate_dst (N := 1) rfl ?_); refine box_event ?hg (N := 1) ?hd (cs := #[.slice A0_0 l0_0.length c0_0, .int .i64 a0_1, .int .i64 a0_2, .int .i64 a0_3, .int .i64 a0_4, .int .i64 a0_5, .slice A0_6 l0_6.length c0_6]) (t := 70) ?hr ?_; (case hd => rfl); (case hg => rfl); (case hr => exact gs_); intro gb778 hg w4 hbox hb; have BK778 := Aside0.mk (hbox); have GW778 := gE_ HB hg; have GE778 := gE_ HB hg; replace HB := Aside0.mk (below_step (by repeat (first | (with_reducible first | exact HB.out | apply ba_ | apply bn_ | apply bd_) | exact HB.out)) hb); clear hb hbox hg) | ((with_reducible refine gate_dst (N := 2) rfl ?_); refine box_event ?hg (N := 2) ?hd (cs := #[.slice none 0 0, .int .i64 0, .int .i64 0, .int .i64 0, .int .i64 0, .int .i64 0, .slice none 0 0]) (t := 70) ?hr ?_; (case hd => rfl); (case hg => rfl); (case hr => exact gs_); intro gb779 hg w5 hbox hb; have BK779 := Aside0.mk (hbox); have GW779 := gE_ HB hg; have GE779 := gE_ HB hg; replace HB := Aside0.mk (below_step (by repeat (first | (with_reducible first | exact HB.out | apply ba_ | apply bn_ | apply bd_ | refine bset_ ?_ (by assumption)) | exact HB.out)) hb); have NB778_779 := nB_ BK778 hg; have NB779_778 := nA_ BK778 hg; replace BK778 := bB_ BK778 hb; clear hb hbox hg))
 replace BK778 := Aside0.mk (blk_drew BK778.out)
 replace BK779 := Aside0.mk (blk_drew BK779.out)
 replace HB := Aside0.mk (below_drew1 HB.out)
 refine start_ (n := 10) (S := fun w' => w'.cell? ⟨gb778, 0, none⟩ = some (.slice A0_0 l0_0.length c0_0) ∧ w'.cell? ⟨gb778, 1, none⟩ = some (.int .i64 a0_1) ∧ w'.cell? ⟨gb778, 2, none⟩ = some (.int .i64 a0_2) ∧ w'.cell? ⟨gb778, 3, none⟩ = some (.int .i64 a0_3) ∧ w'.cell? ⟨gb778, 4, none⟩ = some (.int .i64 a0_4) ∧ w'.cell? ⟨gb778, 5, none⟩ = some (.int .i64 a0_5) ∧ w'.cell? ⟨gb778, 6, none⟩ = some (.slice A0_6 l0_6.length c0_6)) (ds := [7, 9]) #[false, false, false, false, false, false, false, false, false, false] (by kernel_rfl) rfl rfl ⟨(blk_cell BK778.out 0).trans rfl, (blk_cell BK778.out 1).trans rfl, (blk_cell BK778.out 2).trans rfl, (blk_cell BK778.out 3).trans rfl, (blk_cell BK778.out 4).trans rfl, (blk_cell BK778.out 5).trans rfl, (blk_cell BK778.out 6).trans rfl⟩ (fun hHeld => ?_); refine with_tabW impl_Arena_own.tab1 impl_Arena_own.bits1 (fun HT_ HW_ => ?_)
 generalize w5.drew = w6 at BK778 BK779 HB hHeld ⊢
 refine pure_ (i := 0) (N := some 3) (v := ?_) (a' := ?_) #[true, false, false, false, false, false, false, false, false, false] rfl rfl (any_of HT_.out (by kernel_rfl)) (fun _ _ _ h => h) (Or.inl ⟨by rfl, ?_⟩) ?_ ?_
 rotate_left
 ·intro w'
  go_simp
  with_reducible rfl
 rotate_left
 ·simp only [Act.put, List.setIfInBounds_toArray, List.set_cons_zero, List.set_cons_succ, i64_w, i32_w]
  rfl
 refine pure_ (i := 3) (N := some 6) (v := ?_) (a' := ?_) #[true, false, false, true, false, false, false, false, false, false] rfl rfl (any_of HT_.out (by kernel_rfl)) (fun _ _ _ h => h) (Or.inl ⟨by rfl, ?_⟩) ?_ ?_
 rotate_left
 ·intro w'
  go_simp
  with_reducible rfl
 rotate_left
 ·simp only [Act.put, List.setIfInBounds_toArray, List.set_cons_zero, List.set_cons_succ, i64_w, i32_w]
  rfl
 refine take_ (i := 1) (N := some 4) (v := ?_) (a' := ?_) #[true, true, false, true, false, false, false, false, false, false] rfl rfl (take_ofW HT_.out HW_.out (by kernel_rfl)) (fun _ _ _ h => h) (Or.inl ⟨by rfl, ?_⟩) hHeld ?_ ?_
 rotate_left
 ·rintro w' ⟨s0, s1, s2, s3, s4, s5, s6⟩
  go_simp
  with_reducible rfl
 rotate_left
 ·simp only [Act.put, List.setIfInBounds_toArray, List.set_cons_zero, List.set_cons_succ, i64_w, i32_w]
  rfl
 refine take_ (i := 4) (N := some 7) (v := ?_) (a' := ?_) #[true, true, false, true, true, false, false, false, false, false] rfl rfl (take_ofW HT_.out HW_.out (by kernel_rfl)) (fun _ _ _ h => h) (Or.inl ⟨by rfl, ?_⟩) hHeld ?_ ?_
 rotate_left
 ·rintro w' ⟨s0, s1, s2, s3, s4, s5, s6⟩
  go_simp
  with_reducible rfl
 rotate_left
 ·simp only [Act.put, List.setIfInBounds_toArray, List.set_cons_zero, List.set_cons_succ, i64_w, i32_w]
  rfl
 refine one_ (i := 2) (N := some 5) #[true, true, true, true, true, false, false, false, false, false] rfl rfl (one_of HT_.out (by kernel_rfl)) (by decide) (fun K hK => ?_)
 refine goes_ Try.func127 (by kernel_rfl) rfl #[.agg #[.slice A0_0 l0_0.length c0_0]] (by rfl) rfl rfl ar_ ?_
 with_reducible refine (impl_Memory_own.calls k _ _ l0_0 t780 _ ?side1 ?side2 A2.out).mono ?_
 (case side1 => exact cS_ (Kd.C_below HR0_0.out HB.out))
 (case side2 => exact HC0_0.out)
 rintro e w7 ⟨v781, rfl, ho0, hb⟩
 refine ⟨_, rfl, ?_⟩
 have HO782 := Aside0.mk (sL_ ho0 HB)
 replace BK778 := bB_ BK778 hb
 replace BK779 := bB_ BK779 hb
 replace HB := Aside0.mk (below_step (by repeat (first | (with_reducible first | exact HB.out | apply ba_ | apply bn_ | apply bd_ | refine bset_ ?_ (by assumption)) | exact HB.out)) hb)
 (try clear hb)
 (try clear hb2)
 (try clear hk)
 (try clear hi)
 (try clear ho0)
 refine hK.out _ _ ⟨(blk_cell BK778.out 0).trans rfl, (blk_cell BK778.out 1).trans rfl, (blk_cell BK778.out 2).trans rfl, (blk_cell BK778.out 3).trans rfl, (blk_cell BK778.out 4).trans rfl, (blk_cell BK778.out 5).trans rfl, (blk_cell BK778.out 6).trans rfl⟩ (fun hHeld => ?_)
 clear hK K
 refine norm_ (a' := ?_) ?_ ?_
 rotate_left
 ·show Act.put _ (some 5) _ = _
  simp only [Act.put, List.setIfInBounds_toArray, List.set_cons_zero, List.set_cons_succ, i64_w, i32_w]
  rfl
 refine pure_ (i := 6) (N := some 9) (v := ?_) (a' := ?_) #[true, true, true, true, true, false, true, false, false, false] rfl rfl (any_of HT_.out (by kernel_rfl)) (fun _ _ _ h => h) (Or.inl ⟨by rfl, ?_⟩) ?_ ?_
 rotate_left
 ·intro w'
  go_simp
  with_reducible rfl
 rotate_left
 ·simp only [Act.put, List.setIfInBounds_toArray, List.set_cons_zero, List.set_cons_succ, i64_w, i32_w]
  rfl
 refine one_ (i := 5) (N := some 8) #[true, true, true, true, true, true, true, false, false, false] rfl rfl (one_of HT_.out (by kernel_rfl)) (by decide) (fun K hK => ?_)
 refine goes_ Try.func156 (by kernel_rfl) rfl #[.slice A0_6 l0_6.length c0_6] (by rfl) rfl rfl ar_ ?_
 with_reducible refine (slices_Clone_int.calls _ _ l0_6 t783 _ ?side1 ?side2 A3.out).mono ?_
 (case side1 => exact cS_ (Kd.C_below HR0_6.out HB.out))
 (case side2 => exact HC0_6.out)
 rintro e w8 ⟨v784, rfl, ho0, hb⟩
 refine ⟨_, rfl, ?_⟩
 replace HO782 := Aside0.mk (Kd.S_below (sK_ HO782) hb)
 have HO785 := Aside0.mk (rL_ ho0 HB)
 replace BK778 := bB_ BK778 hb
 replace BK779 := bB_ BK779 hb
 replace HB := Aside0.mk (below_step (by repeat (first | (with_reducible first | exact HB.out | apply ba_ | apply bn_ | apply bd_ | refine bset_ ?_ (by assumption)) | exact HB.out)) hb)
 (try clear hb)
 (try clear hb2)
 (try clear hk)
 (try clear hi)
 (try clear ho0)
 obtain ⟨Ao9, co9, eo9⟩ := Kd.S_slice HO782.out
 (first | subst eo9 | (injection eo9 with f1_ f2_ f3_; have f4_ := f1_.symm; have f5_ := f3_.symm; clear f1_ f2_ f3_; subst f4_; subst f5_))
 obtain ⟨Ao11, co11, eo11⟩ := Kd.R_slice HO785.out
 (first | subst eo11 | (injection eo11 with f1_ f2_ f3_; have f4_ := f1_.symm; have f5_ := f3_.symm; clear f1_ f2_ f3_; subst f4_; subst f5_))
 refine hK.out _ _ ⟨(blk_cell BK778.out 0).trans rfl, (blk_cell BK778.out 1).trans rfl, (blk_cell BK778.out 2).trans rfl, (blk_cell BK778.out 3).trans rfl, (blk_cell BK778.out 4).trans rfl, (blk_cell BK778.out 5).trans rfl, (blk_cell BK778.out 6).trans rfl⟩ (fun hHeld => ?_)
 clear hK K
 refine norm_ (a' := ?_) ?_ ?_
 rotate_left
 ·show Act.put _ (some 8) _ = _
  simp only [Act.put, List.setIfInBounds_toArray, List.set_cons_zero, List.set_cons_succ, i64_w, i32_w]
  rfl
 refine last_ (i := 7) (N := none) #[true, true, true, true, true, true, true, true, false, false] rfl rfl (one_of HT_.out (by kernel_rfl)) (by decide) (fun K hK => ?_)
 have hs10 : w8.cell? ⟨gb778, 0, none⟩ = some (.slice A0_0 l0_0.length c0_0) := (blk_cell BK778.out 0).trans rfl
 have hfs10 := blk_frozen BK778.out 0
 have hns10_1 := NB779_778.out
 have hms10_1 := NB778_779.out
 refine skip_ (w1 := ?_) (by rfl) rfl ?_ ?_
 rotate_left
 ·go_simp
  rfl
 refine hK.out _ _ ?_
 clear hK K
 refine pure_ (i := 8) (N := some 10) (v := ?_) (a' := ?_) #[true, true, true, true, true, true, true, true, true, false] rfl rfl (any_of HT_.out (by kernel_rfl)) (fun _ _ _ h => h) (Or.inl ⟨by rfl, ?_⟩) ?_ ?_
 rotate_left
 ·intro w'
  go_simp
  with_reducible rfl
 rotate_left
 ·simp only [Act.put, List.setIfInBounds_toArray, List.set_cons_zero, List.set_cons_succ, i64_w, i32_w]
  rfl
 refine last_ (i := 9) (N := none) #[true, true, true, true, true, true, true, true, true, true] rfl rfl (one_of HT_.out (by kernel_rfl)) (by decide) (fun K hK => ?_)
 have hs12 : w8.cell? ⟨gb778, 6, none⟩ = some (.slice A0_6 l0_6.length c0_6) := (blk_cell BK778.out 6).trans rfl
 have hfs12 := blk_frozen BK778.out 6
 have hns12_1 := NB779_778.out
 have hms12_1 := NB778_779.out
 first | (generalize hW9_ : World.setCell _ _ _ = W9_; refine skip_ (w1 := ?_) (by rfl) rfl ?_ ?_ <;> subst hW9_) | refine skip_ (w1 := ?_) (by rfl) rfl ?_ ?_
 rotate_left
 ·go_simp
  rfl
 refine hK.out _ _ ?_
 clear hK K
 refine done_ (done_of HT_.out (by kernel_rfl)) ?_
 have hnb13 := NB778_779.out
 have hnc13 := NB779_778.out
 obtain ⟨hcz14_0, hcz14_1, hcz14_2, hcz14_3, hcz14_4, hcz14_5, hcz14_6, hfz14_0, hfz14_1, hfz14_2, hfz14_3, hfz14_4, hfz14_5, hfz14_6⟩ := zc7_ BK778
 obtain ⟨hcz15_0, hcz15_1, hcz15_2, hcz15_3, hcz15_4, hcz15_5, hcz15_6, hfz15_0, hfz15_1, hfz15_2, hfz15_3, hfz15_4, hfz15_5, hfz15_6⟩ := zc7_ BK779
 try go_wp2
 refine bodyPost_ret (results_cell_row rfl _ _ gb779 70 #[.slice Ao9 t780.length co9, .int .i64 a0_1, .int .i64 a0_2, .int .i64 a0_3, .int .i64 a0_4, .int .i64 a0_5, .slice Ao11 t783.length co11] (0, 0) _ rfl (by exact fB_ BK779) Try.underlying70 rfl (by kernel_rfl)) rfl ?_
 exact ⟨_, _, er_, by (with_reducible repeat first | apply ks1_ | apply ks2_ | apply ks3_); exact Kd.S_mono (sf7_ gb779 (Kd.S_far (p := ⟨gb778, 6, none⟩) (sf1_ gb778 (Kd.S_types (Kd.S_types HO782.out BK778.out (by decide)) BK779.out (by decide)) (fun _ hk => hk.1.2)) (fun _ hk => hk.1.2) (.slice Ao11 t783.length co11)) (fun _ hk => hk.2)) (fun _ hk => trivial), by (with_reducible repeat first | apply kr1_ | apply kr2_ | apply kr3_); exact Kd.R_mono (rf7_ gb779 (Kd.R_far (p := ⟨gb778, 6, none⟩) (rf1_ gb778 (Kd.R_types (Kd.R_types HO785.out BK778.out (by decide)) BK779.out (by decide)) (fun _ hk => hk.1.2)) (fun _ hk => hk.1.2) (.slice Ao11 t783.length co11)) (fun _ hk => hk.2)) (fun _ hk => trivial), by repeat (first | (with_reducible first | exact HB.out | apply below_alloc | apply pw_below_drewN | apply below_drew1 | refine below_set ?_ GE778.out | refine below_set ?_ GE779.out) | exact HB.out)⟩
end Go.Proofs.Ytmkcbbbknbahgaa.P
namespace Go.Proofs.Ytmkcbbbknbahgaa.P
open Go.RowKit Go.Proofs.YtmkcbbbknbahgaaW.PrintWords Go.Proofs.YtmkcbbbknbahgaaW.PrintLast Go.Proofs.YtmkcbbbknbahgaaW.PrintMore
set_option linter.unusedVariables false
set_option linter.unusedSimpArgs false

def impl_GiveAll.f (k : Nat) (l0_0 : List (List Int)) (a0_1 : Int) (a0_2 : Int) (a0_3 : Int) (a0_4 : Int) (a0_5 : Int) (l0_6 : List Int) (l1 : List S74) : Option ((List (List Int)) × Int × Int × Int × Int × Int × List Int × List S32 × Bool) :=
  (impl_areAsked.f k l0_0 a0_1 a0_2 a0_3 a0_4 a0_5 l0_6 l1).bind fun t => if t = true then ((impl_Arena_own.f k l0_0 a0_1 a0_2 a0_3 a0_4 a0_5 l0_6).bind fun o => if (∀ q ∈ l1, q.f1 ≠ 0) ∧ l1.length ≤ 1048576 then (if (giveRun a0_1 a0_2 a0_3 l1 a0_5 []).2.2 = true then some (o.1, a0_1, a0_2, a0_3, a0_4, (giveRun a0_1 a0_2 a0_3 l1 a0_5 []).1, o.2.2.2.2.2.2, (giveRun a0_1 a0_2 a0_3 l1 a0_5 []).2.1, true) else some ([], 0, 0, 0, 0, 0, [], [], false)) else none) else some ([], 0, 0, 0, 0, 0, [], [], false)

set_option maxHeartbeats 8000000 in
set_option maxRecDepth 100000 in
theorem impl_GiveAll.calls (k : Nat) (A0_0 : Option Addr) (c0_0 : Nat) (l0_0 : List (List Int)) (a0_1 : Int) (a0_2 : Int) (a0_3 : Int) (a0_4 : Int) (a0_5 : Int) (A0_6 : Option Addr) (c0_6 : Nat) (l0_6 : List Int) (A1 : Option Addr) (c1 : Nat) (l1 : List S74) (r1 : List (List Int)) (r2 : Int) (r3 : Int) (r4 : Int) (r5 : Int) (r6 : Int) (r7 : List Int) (r8 : List S32) (r9 : Bool) (w : World) (hr0_0 : Kd.C (Kd.slice 5 (Kd.int .u8)) w A0_0 l0_0.length l0_0) (hc0_0 : l0_0.length ≤ c0_0) (hr0_6 : Kd.C (Kd.int .i64) w A0_6 l0_6.length l0_6) (hc0_6 : l0_6.length ≤ c0_6) (hr1 : Kd.C k74 w A1 l1.length l1) (hc1 : l1.length ≤ c1) (h : impl_GiveAll.f k l0_0 a0_1 a0_2 a0_3 a0_4 a0_5 l0_6 l1 = some (r1, r2, r3, r4, r5, r6, r7, r8, r9)) :
    Calls Try.prog 49 #[.agg #[(.slice A0_0 l0_0.length c0_0), (.int .i64 a0_1), (.int .i64 a0_2), (.int .i64 a0_3), (.int .i64 a0_4), (.int .i64 a0_5), (.slice A0_6 l0_6.length c0_6)], .slice A1 l1.length c1] w fun e w' => ∃ v0_ v6_ v7_ : Value, e = .returned (.tuple #[.agg #[v0_, .int .i64 r2, .int .i64 r3, .int .i64 r4, .int .i64 r5, .int .i64 r6, v6_], v7_, .bool r9]) ∧ Kd.S (Kd.slice 5 (Kd.int .u8)) 29 w' w.heap.size (fun _ => True) v0_ r1 ∧ Kd.R (Kd.int .i64) 3 w' w.heap.size (fun _ => True) v6_ r7 ∧ Kd.R k32 32 w' w.heap.size (fun _ => True) v7_ r8 ∧ Below w.heap.size w w' := by
  have hu1 := Try.underlying70
  obtain ⟨t, ht, h⟩ := Option.bind_eq_some_iff.mp (show (impl_areAsked.f k l0_0 a0_1 a0_2 a0_3 a0_4 a0_5 l0_6 l1).bind _ = _ from h)
  have HR0 := Aside0.mk hr0_0
  have HC0 := Aside0.mk hc0_0
  have HR6 := Aside0.mk hr0_6
  have HC6 := Aside0.mk hc0_6
  have HR1 := Aside0.mk hr1
  have HC1 := Aside0.mk hc1
  have HT := Aside0.mk ht
  have HH := Aside0.mk h
  clear hr0_0 hc0_0 hr0_6 hc0_6 hr1 hc1 ht h
  have HA1 := Below.alloc (Below.refl w.heap.size w) (Nat.le_refl _) (.cells #[(.slice A0_0 l0_0.length c0_0), (.int .i64 a0_1), (.int .i64 a0_2), (.int .i64 a0_3), (.int .i64 a0_4), (.int .i64 a0_5), (.slice A0_6 l0_6.length c0_6)] 70)
  have HA2 := Below.alloc (Below.refl (w.alloc (.cells #[(.slice A0_0 l0_0.length c0_0), (.int .i64 a0_1), (.int .i64 a0_2), (.int .i64 a0_3), (.int .i64 a0_4), (.int .i64 a0_5), (.slice A0_6 l0_6.length c0_6)] 70)).heap.size (w.alloc (.cells #[(.slice A0_0 l0_0.length c0_0), (.int .i64 a0_1), (.int .i64 a0_2), (.int .i64 a0_3), (.int .i64 a0_4), (.int .i64 a0_5), (.slice A0_6 l0_6.length c0_6)] 70))) (Nat.le_refl _) (.cells #[(.slice none 0 0), (.int .i64 0), (.int .i64 0), (.int .i64 0), (.int .i64 0), (.int .i64 0), (.slice none 0 0)] 70)
  have BK1 := Aside0.mk (blk_below (heap_alloc_new w (.cells #[(.slice A0_0 l0_0.length c0_0), (.int .i64 a0_1), (.int .i64 a0_2), (.int .i64 a0_3), (.int .i64 a0_4), (.int .i64 a0_5), (.slice A0_6 l0_6.length c0_6)] 70)) HA2)
  have BK2 := Aside0.mk (heap_alloc_new (w.alloc (.cells #[(.slice A0_0 l0_0.length c0_0), (.int .i64 a0_1), (.int .i64 a0_2), (.int .i64 a0_3), (.int .i64 a0_4), (.int .i64 a0_5), (.slice A0_6 l0_6.length c0_6)] 70)) (.cells #[(.slice none 0 0), (.int .i64 0), (.int .i64 0), (.int .i64 0), (.int .i64 0), (.int .i64 0), (.slice none 0 0)] 70))
  have HB := Aside0.mk (below_step HA1 HA2)
  rw [show (w.alloc (.cells #[(.slice A0_0 l0_0.length c0_0), (.int .i64 a0_1), (.int .i64 a0_2), (.int .i64 a0_3), (.int .i64 a0_4), (.int .i64 a0_5), (.slice A0_6 l0_6.length c0_6)] 70)).heap.size = w.heap.size + 1 by simp] at *
  clear HA1 HA2
  go_enter Try.func49, Try.ntmps49
  go_wp2_with fail
  refine (impl_areAsked.calls k A0_0 c0_0 l0_0 a0_1 a0_2 a0_3 a0_4 a0_5 A0_6 c0_6 l0_6 A1 c1 l1 t _ (Kd.C_below HR0.out HB.out) HC0.out (Kd.C_below HR6.out HB.out) HC6.out (Kd.C_below HR1.out HB.out) HC1.out HT.out).mono ?_
  rintro e w1 ⟨rfl, hb⟩
  replace BK1 := Aside0.mk (blk_below BK1.out hb)
  replace BK2 := Aside0.mk (blk_below BK2.out hb)
  have Z1 := Aside0.mk (show w.heap.size + 2 ≤ w1.heap.size by have := below_size hb; simpa using this)
  replace HB := Aside0.mk (below_step HB.out hb)
  clear hb HT
  cases t with
  | false =>
    have h1 := HH.out
    rw [if_neg (by decide)] at h1
    simp only [Option.some.injEq, Prod.mk.injEq] at h1
    obtain ⟨rfl, rfl, rfl, rfl, rfl, rfl, rfl, rfl, rfl⟩ := h1
    have z0 : w1.cell? ⟨w.heap.size + 1, 0, none⟩ = some (.slice none 0 0) := (blk_cell BK2.out 0).trans rfl
    have z1 : w1.cell? ⟨w.heap.size + 1, 1, none⟩ = some (.int .i64 0) := (blk_cell BK2.out 1).trans rfl
    have z2 : w1.cell? ⟨w.heap.size + 1, 2, none⟩ = some (.int .i64 0) := (blk_cell BK2.out 2).trans rfl
    have z3 : w1.cell? ⟨w.heap.size + 1, 3, none⟩ = some (.int .i64 0) := (blk_cell BK2.out 3).trans rfl
    have z4 : w1.cell? ⟨w.heap.size + 1, 4, none⟩ = some (.int .i64 0) := (blk_cell BK2.out 4).trans rfl
    have z5 : w1.cell? ⟨w.heap.size + 1, 5, none⟩ = some (.int .i64 0) := (blk_cell BK2.out 5).trans rfl
    have z6 : w1.cell? ⟨w.heap.size + 1, 6, none⟩ = some (.slice none 0 0) := (blk_cell BK2.out 6).trans rfl
    have zf0 := blk_frozen BK2.out 0
    have zf1 := blk_frozen BK2.out 1
    have zf2 := blk_frozen BK2.out 2
    have zf3 := blk_frozen BK2.out 3
    have zf4 := blk_frozen BK2.out 4
    have zf5 := blk_frozen BK2.out 5
    have zf6 := blk_frozen BK2.out 6
    have zl := blk_lt BK2.out
    go_wp2_with fail
    refine bodyPost_ret (results_ctt rfl _ _ (w.heap.size + 1) 70 #[(.slice none 0 0), (.int .i64 0), (.int .i64 0), (.int .i64 0), (.int .i64 0), (.int .i64 0), (.slice none 0 0)] (0, 0) _ rfl (by (with_reducible repeat (first | refine blk_drewN ?_ _ | refine blk_drew ?_ | refine blk_alloc ?_ _)); refine blk_put (cs := #[(.slice none 0 0), (.int .i64 0), (.int .i64 0), (.int .i64 0), (.int .i64 0), (.int .i64 0), (.slice none 0 0)]) ?_ 6 _ rfl; (with_reducible repeat (first | refine blk_drewN ?_ _ | refine blk_drew ?_ | refine blk_alloc ?_ _)); refine blk_put (cs := #[(.slice none 0 0), (.int .i64 0), (.int .i64 0), (.int .i64 0), (.int .i64 0), (.int .i64 0), (.slice none 0 0)]) ?_ 5 _ rfl; (with_reducible repeat (first | refine blk_drewN ?_ _ | refine blk_drew ?_ | refine blk_alloc ?_ _)); refine blk_put (cs := #[(.slice none 0 0), (.int .i64 0), (.int .i64 0), (.int .i64 0), (.int .i64 0), (.int .i64 0), (.slice none 0 0)]) ?_ 4 _ rfl; (with_reducible repeat (first | refine blk_drewN ?_ _ | refine blk_drew ?_ | refine blk_alloc ?_ _)); refine blk_put (cs := #[(.slice none 0 0), (.int .i64 0), (.int .i64 0), (.int .i64 0), (.int .i64 0), (.int .i64 0), (.slice none 0 0)]) ?_ 3 _ rfl; (with_reducible repeat (first | refine blk_drewN ?_ _ | refine blk_drew ?_ | refine blk_alloc ?_ _)); refine blk_put (cs := #[(.slice none 0 0), (.int .i64 0), (.int .i64 0), (.int .i64 0), (.int .i64 0), (.int .i64 0), (.slice none 0 0)]) ?_ 2 _ rfl; (with_reducible repeat (first | refine blk_drewN ?_ _ | refine blk_drew ?_ | refine blk_alloc ?_ _)); refine blk_put (cs := #[(.slice none 0 0), (.int .i64 0), (.int .i64 0), (.int .i64 0), (.int .i64 0), (.int .i64 0), (.slice none 0 0)]) ?_ 1 _ rfl; (with_reducible repeat (first | refine blk_drewN ?_ _ | refine blk_drew ?_ | refine blk_alloc ?_ _)); refine blk_put (cs := #[(.slice none 0 0), (.int .i64 0), (.int .i64 0), (.int .i64 0), (.int .i64 0), (.int .i64 0), (.slice none 0 0)]) ?_ 0 _ rfl; (with_reducible repeat (first | refine blk_drewN ?_ _ | refine blk_drew ?_ | refine blk_alloc ?_ _)); exact BK2.out) Try.underlying70 rfl (by kernel_rfl)) rfl ?_
    exact ⟨_, _, _, rfl, Kd.S_nil _ _ _ _ _, Kd.R_nil _ _ _ _ _, Kd.R_nil _ _ _ _ _, by repeat (first | (with_reducible first | exact HB.out | refine below_set ?_ (Nat.le_succ _) | apply below_alloc | apply pw_below_drewN | apply below_drew1) | exact HB.out)⟩
  | true =>
    have h1 := HH.out
    rw [if_pos rfl] at h1
    obtain ⟨⟨m, o2, o3, o4, o5, o6, o7⟩, ho, h1⟩ := Option.bind_eq_some_iff.mp h1
    have ho' := ho
    unfold impl_Arena_own.f at ho'
    obtain ⟨q1, _, ho'⟩ := Option.bind_eq_some_iff.mp ho'
    obtain ⟨q2, _, ho'⟩ := Option.bind_eq_some_iff.mp ho'
    simp only [Option.some.injEq, Prod.mk.injEq] at ho'
    obtain ⟨_, e2, e3, e4, e5, e6, _⟩ := ho'
    subst e2 e3 e4 e5 e6
    have HO := Aside0.mk ho
    by_cases hok : (∀ q ∈ l1, q.f1 ≠ 0) ∧ l1.length ≤ 1048576
    · rw [if_pos hok] at h1
      clear HH ho
      have y0 : w1.cell? ⟨w.heap.size, 0, none⟩ = some (.slice A0_0 l0_0.length c0_0) := (blk_cell BK1.out 0).trans rfl
      have y1 : w1.cell? ⟨w.heap.size, 1, none⟩ = some (.int .i64 a0_1) := (blk_cell BK1.out 1).trans rfl
      have y2 : w1.cell? ⟨w.heap.size, 2, none⟩ = some (.int .i64 a0_2) := (blk_cell BK1.out 2).trans rfl
      have y3 : w1.cell? ⟨w.heap.size, 3, none⟩ = some (.int .i64 a0_3) := (blk_cell BK1.out 3).trans rfl
      have y4 : w1.cell? ⟨w.heap.size, 4, none⟩ = some (.int .i64 a0_4) := (blk_cell BK1.out 4).trans rfl
      have y5 : w1.cell? ⟨w.heap.size, 5, none⟩ = some (.int .i64 a0_5) := (blk_cell BK1.out 5).trans rfl
      have y6 : w1.cell? ⟨w.heap.size, 6, none⟩ = some (.slice A0_6 l0_6.length c0_6) := (blk_cell BK1.out 6).trans rfl
      have zl := blk_lt BK1.out
      go_wp2_with fail
      clear y0 y1 y2 y3 y4 y5 y6 zl
      refine (impl_Arena_own.calls k A0_0 c0_0 l0_0 a0_1 a0_2 a0_3 a0_4 a0_5 A0_6 c0_6 l0_6 m a0_1 a0_2 a0_3 a0_4 a0_5 o7 _ (Kd.C_below HR0.out HB.out) HC0.out (Kd.C_below HR6.out HB.out) HC6.out HO.out).mono ?_
      rintro e w2 ⟨v0, v6, rfl, hS, hR, hb⟩
      replace BK1 := Aside0.mk (blk_below BK1.out hb)
      replace BK2 := Aside0.mk (blk_below BK2.out hb)
      obtain ⟨A, c, rfl⟩ := Kd.S_slice hS
      obtain ⟨A7, c7, rfl⟩ := Kd.R_slice hR
      have hlow := below_size HB.out
      have HS := Aside0.mk (Kd.S_lower (Kd.S_mono hS (fun _ _ => trivial)) hlow)
      have HR := Aside0.mk (Kd.R_lower (Kd.R_mono hR (fun _ _ => trivial)) hlow)
      replace HB := Aside0.mk (below_step HB.out hb)
      have Z2 := Aside0.mk (below_size hb)
      clear hS hR hb hlow
      go_wp2_with fail
      have HA4 := Below.alloc (Below.refl w2.heap.size w2) (Nat.le_refl _) (.cells #[(.slice A m.length c), (.int .i64 a0_1), (.int .i64 a0_2), (.int .i64 a0_3), (.int .i64 a0_4), (.int .i64 a0_5), (.slice A7 o7.length c7)] 70)
      replace BK1 := Aside0.mk (blk_below BK1.out HA4)
      replace BK2 := Aside0.mk (blk_below BK2.out HA4)
      have BK4 := heap_alloc_new w2 (.cells #[(.slice A m.length c), (.int .i64 a0_1), (.int .i64 a0_2), (.int .i64 a0_3), (.int .i64 a0_4), (.int .i64 a0_5), (.slice A7 o7.length c7)] 70)
      replace HS := Aside0.mk (Kd.S_elderB HS.out w2.heap.size (Nat.le_refl _))
      replace HR := Aside0.mk (Kd.R_elderB HR.out w2.heap.size (Nat.le_refl _))
      replace HS := Aside0.mk (Kd.S_below HS.out HA4)
      replace HR := Aside0.mk (Kd.R_below HR.out HA4)
      replace HB := Aside0.mk (below_step HB.out HA4)
      have Z3 := Aside0.mk (show w2.heap.size < (w2.alloc (.cells #[(.slice A m.length c), (.int .i64 a0_1), (.int .i64 a0_2), (.int .i64 a0_3), (.int .i64 a0_4), (.int .i64 a0_5), (.slice A7 o7.length c7)] 70)).heap.size by simp)
      have hwg : w.heap.size ≤ w2.heap.size := by have := Z1.out; have := Z2.out; omega
      clear HA4
      have H1 := Aside0.mk h1
      clear h1
      refine (giveAll_calls w2.heap.size A m.length c a0_1 a0_2 a0_3 a0_4 a0_5 A7 o7.length c7 A1 c1 l1 w _ HB.out hwg BK4 HR1.out hok.1 hok.2).mono ?_
      generalize (w2.alloc (.cells #[(.slice A m.length c), (.int .i64 a0_1), (.int .i64 a0_2), (.int .i64 a0_3), (.int .i64 a0_4), (.int .i64 a0_5), (.slice A7 o7.length c7)] 70)) = w3 at HS HR BK1 BK2 BK4 HB Z3
      rintro e w4 ⟨v7, rfl, hR7, hb4, hg⟩
      generalize giveRun a0_1 a0_2 a0_3 l1 a0_5 [] = gr at hR7 hb4 H1 ⊢
      obtain ⟨gu, gws, gok⟩ := gr
      have h1 := H1.out
      simp only [] at h1 hR7 hb4
      replace HS := Aside0.mk (Kd.S_grown HS.out hg (fun k_ hk_ e_ => hk_.2 (Option.some.inj e_)))
      replace HR := Aside0.mk (Kd.R_grown HR.out hg (fun k_ hk_ e_ => hk_.2 (Option.some.inj e_)))
      have HR7 := Aside0.mk (Kd.R_lower hR7 (below_size HB.out))
      replace BK2 := Aside0.mk ((hg.block _ (blk_lt BK2.out) (fun e_ => by have := Option.some.inj e_; have := Z1.out; have := Z2.out; omega)).trans BK2.out)
      replace BK4 := Aside0.mk hb4
      replace HB := Aside0.mk (below_of_grown HB.out hg hwg (below_size HB.out))
      clear hR7 hb4 hg H1 BK1
      cases gok with
      | false =>
        rw [if_neg (by decide)] at h1
        simp only [Option.some.injEq, Prod.mk.injEq] at h1
        obtain ⟨rfl, rfl, rfl, rfl, rfl, rfl, rfl, rfl, rfl⟩ := h1
        have z0 : w4.cell? ⟨w.heap.size + 1, 0, none⟩ = some (.slice none 0 0) := (blk_cell BK2.out 0).trans rfl
        have z1 : w4.cell? ⟨w.heap.size + 1, 1, none⟩ = some (.int .i64 0) := (blk_cell BK2.out 1).trans rfl
        have z2 : w4.cell? ⟨w.heap.size + 1, 2, none⟩ = some (.int .i64 0) := (blk_cell BK2.out 2).trans rfl
        have z3 : w4.cell? ⟨w.heap.size + 1, 3, none⟩ = some (.int .i64 0) := (blk_cell BK2.out 3).trans rfl
        have z4 : w4.cell? ⟨w.heap.size + 1, 4, none⟩ = some (.int .i64 0) := (blk_cell BK2.out 4).trans rfl
        have z5 : w4.cell? ⟨w.heap.size + 1, 5, none⟩ = some (.int .i64 0) := (blk_cell BK2.out 5).trans rfl
        have z6 : w4.cell? ⟨w.heap.size + 1, 6, none⟩ = some (.slice none 0 0) := (blk_cell BK2.out 6).trans rfl
        have zf0 := blk_frozen BK2.out 0
        have zf1 := blk_frozen BK2.out 1
        have zf2 := blk_frozen BK2.out 2
        have zf3 := blk_frozen BK2.out 3
        have zf4 := blk_frozen BK2.out 4
        have zf5 := blk_frozen BK2.out 5
        have zf6 := blk_frozen BK2.out 6
        have zl := blk_lt BK2.out
        clear BK4 HS HR HR7
        go_wp2_with fail
        refine bodyPost_ret (results_ctt rfl _ _ (w.heap.size + 1) 70 #[(.slice none 0 0), (.int .i64 0), (.int .i64 0), (.int .i64 0), (.int .i64 0), (.int .i64 0), (.slice none 0 0)] (0, 0) _ rfl (by (with_reducible repeat (first | refine blk_drewN ?_ _ | refine blk_drew ?_ | refine blk_alloc ?_ _)); refine blk_put (cs := #[(.slice none 0 0), (.int .i64 0), (.int .i64 0), (.int .i64 0), (.int .i64 0), (.int .i64 0), (.slice none 0 0)]) ?_ 6 _ rfl; (with_reducible repeat (first | refine blk_drewN ?_ _ | refine blk_drew ?_ | refine blk_alloc ?_ _)); refine blk_put (cs := #[(.slice none 0 0), (.int .i64 0), (.int .i64 0), (.int .i64 0), (.int .i64 0), (.int .i64 0), (.slice none 0 0)]) ?_ 5 _ rfl; (with_reducible repeat (first | refine blk_drewN ?_ _ | refine blk_drew ?_ | refine blk_alloc ?_ _)); refine blk_put (cs := #[(.slice none 0 0), (.int .i64 0), (.int .i64 0), (.int .i64 0), (.int .i64 0), (.int .i64 0), (.slice none 0 0)]) ?_ 4 _ rfl; (with_reducible repeat (first | refine blk_drewN ?_ _ | refine blk_drew ?_ | refine blk_alloc ?_ _)); refine blk_put (cs := #[(.slice none 0 0), (.int .i64 0), (.int .i64 0), (.int .i64 0), (.int .i64 0), (.int .i64 0), (.slice none 0 0)]) ?_ 3 _ rfl; (with_reducible repeat (first | refine blk_drewN ?_ _ | refine blk_drew ?_ | refine blk_alloc ?_ _)); refine blk_put (cs := #[(.slice none 0 0), (.int .i64 0), (.int .i64 0), (.int .i64 0), (.int .i64 0), (.int .i64 0), (.slice none 0 0)]) ?_ 2 _ rfl; (with_reducible repeat (first | refine blk_drewN ?_ _ | refine blk_drew ?_ | refine blk_alloc ?_ _)); refine blk_put (cs := #[(.slice none 0 0), (.int .i64 0), (.int .i64 0), (.int .i64 0), (.int .i64 0), (.int .i64 0), (.slice none 0 0)]) ?_ 1 _ rfl; (with_reducible repeat (first | refine blk_drewN ?_ _ | refine blk_drew ?_ | refine blk_alloc ?_ _)); refine blk_put (cs := #[(.slice none 0 0), (.int .i64 0), (.int .i64 0), (.int .i64 0), (.int .i64 0), (.int .i64 0), (.slice none 0 0)]) ?_ 0 _ rfl; (with_reducible repeat (first | refine blk_drewN ?_ _ | refine blk_drew ?_ | refine blk_alloc ?_ _)); exact BK2.out) Try.underlying70 rfl (by kernel_rfl)) rfl ?_
        exact ⟨_, _, _, rfl, Kd.S_nil _ _ _ _ _, Kd.R_nil _ _ _ _ _, Kd.R_nil _ _ _ _ _, by repeat (first | (with_reducible first | exact HB.out | refine below_set ?_ (Nat.le_succ _) | apply below_alloc | apply pw_below_drewN | apply below_drew1) | exact HB.out)⟩
      | true =>
        rw [if_pos rfl] at h1
        simp only [Option.some.injEq, Prod.mk.injEq] at h1
        obtain ⟨rfl, rfl, rfl, rfl, rfl, rfl, rfl, rfl, rfl⟩ := h1
        have y0 : w4.cell? ⟨w2.heap.size, 0, none⟩ = some (.slice A m.length c) := (blk_cell BK4.out 0).trans rfl
        have y1 : w4.cell? ⟨w2.heap.size, 1, none⟩ = some (.int .i64 a0_1) := (blk_cell BK4.out 1).trans rfl
        have y2 : w4.cell? ⟨w2.heap.size, 2, none⟩ = some (.int .i64 a0_2) := (blk_cell BK4.out 2).trans rfl
        have y3 : w4.cell? ⟨w2.heap.size, 3, none⟩ = some (.int .i64 a0_3) := (blk_cell BK4.out 3).trans rfl
        have y4 : w4.cell? ⟨w2.heap.size, 4, none⟩ = some (.int .i64 a0_4) := (blk_cell BK4.out 4).trans rfl
        have y5 : w4.cell? ⟨w2.heap.size, 5, none⟩ = some (.int .i64 gu) := (blk_cell BK4.out 5).trans rfl
        have y6 : w4.cell? ⟨w2.heap.size, 6, none⟩ = some (.slice A7 o7.length c7) := (blk_cell BK4.out 6).trans rfl
        have z0 : w4.cell? ⟨w.heap.size + 1, 0, none⟩ = some (.slice none 0 0) := (blk_cell BK2.out 0).trans rfl
        have z1 : w4.cell? ⟨w.heap.size + 1, 1, none⟩ = some (.int .i64 0) := (blk_cell BK2.out 1).trans rfl
        have z2 : w4.cell? ⟨w.heap.size + 1, 2, none⟩ = some (.int .i64 0) := (blk_cell BK2.out 2).trans rfl
        have z3 : w4.cell? ⟨w.heap.size + 1, 3, none⟩ = some (.int .i64 0) := (blk_cell BK2.out 3).trans rfl
        have z4 : w4.cell? ⟨w.heap.size + 1, 4, none⟩ = some (.int .i64 0) := (blk_cell BK2.out 4).trans rfl
        have z5 : w4.cell? ⟨w.heap.size + 1, 5, none⟩ = some (.int .i64 0) := (blk_cell BK2.out 5).trans rfl
        have z6 : w4.cell? ⟨w.heap.size + 1, 6, none⟩ = some (.slice none 0 0) := (blk_cell BK2.out 6).trans rfl
        have zf0 := blk_frozen BK2.out 0
        have zf1 := blk_frozen BK2.out 1
        have zf2 := blk_frozen BK2.out 2
        have zf3 := blk_frozen BK2.out 3
        have zf4 := blk_frozen BK2.out 4
        have zf5 := blk_frozen BK2.out 5
        have zf6 := blk_frozen BK2.out 6
        have zl := blk_lt BK2.out
        have yl := blk_lt BK4.out
        have HS3 := Aside0.mk (Kd.S_types HS.out BK2.out (by decide))
        have HR3 := Aside0.mk (Kd.R_types HR.out BK2.out (by decide))
        have HW3 := Aside0.mk (Kd.R_types HR7.out BK2.out (by decide))
        go_wp2_with fail
        refine bodyPost_ret (results_ctt rfl _ _ (w.heap.size + 1) 70 #[(.slice A m.length c), (.int .i64 a0_1), (.int .i64 a0_2), (.int .i64 a0_3), (.int .i64 a0_4), (.int .i64 gu), (.slice A7 o7.length c7)] (0, 0) _ rfl (by (with_reducible repeat (first | refine blk_drewN ?_ _ | refine blk_drew ?_ | refine blk_alloc ?_ _)); refine blk_put (cs := #[(.slice A m.length c), (.int .i64 a0_1), (.int .i64 a0_2), (.int .i64 a0_3), (.int .i64 a0_4), (.int .i64 gu), (.slice none 0 0)]) ?_ 6 _ rfl; (with_reducible repeat (first | refine blk_drewN ?_ _ | refine blk_drew ?_ | refine blk_alloc ?_ _)); refine blk_put (cs := #[(.slice A m.length c), (.int .i64 a0_1), (.int .i64 a0_2), (.int .i64 a0_3), (.int .i64 a0_4), (.int .i64 0), (.slice none 0 0)]) ?_ 5 _ rfl; (with_reducible repeat (first | refine blk_drewN ?_ _ | refine blk_drew ?_ | refine blk_alloc ?_ _)); refine blk_put (cs := #[(.slice A m.length c), (.int .i64 a0_1), (.int .i64 a0_2), (.int .i64 a0_3), (.int .i64 0), (.int .i64 0), (.slice none 0 0)]) ?_ 4 _ rfl; (with_reducible repeat (first | refine blk_drewN ?_ _ | refine blk_drew ?_ | refine blk_alloc ?_ _)); refine blk_put (cs := #[(.slice A m.length c), (.int .i64 a0_1), (.int .i64 a0_2), (.int .i64 0), (.int .i64 0), (.int .i64 0), (.slice none 0 0)]) ?_ 3 _ rfl; (with_reducible repeat (first | refine blk_drewN ?_ _ | refine blk_drew ?_ | refine blk_alloc ?_ _)); refine blk_put (cs := #[(.slice A m.length c), (.int .i64 a0_1), (.int .i64 0), (.int .i64 0), (.int .i64 0), (.int .i64 0), (.slice none 0 0)]) ?_ 2 _ rfl; (with_reducible repeat (first | refine blk_drewN ?_ _ | refine blk_drew ?_ | refine blk_alloc ?_ _)); refine blk_put (cs := #[(.slice A m.length c), (.int .i64 0), (.int .i64 0), (.int .i64 0), (.int .i64 0), (.int .i64 0), (.slice none 0 0)]) ?_ 1 _ rfl; (with_reducible repeat (first | refine blk_drewN ?_ _ | refine blk_drew ?_ | refine blk_alloc ?_ _)); refine blk_put (cs := #[(.slice none 0 0), (.int .i64 0), (.int .i64 0), (.int .i64 0), (.int .i64 0), (.int .i64 0), (.slice none 0 0)]) ?_ 0 _ rfl; (with_reducible repeat (first | refine blk_drewN ?_ _ | refine blk_drew ?_ | refine blk_alloc ?_ _)); exact BK2.out) Try.underlying70 rfl (by kernel_rfl)) rfl ?_
        exact ⟨_, _, _, rfl, Kd.S_mono (ok := fun k_ => (True ∧ k_ ≠ w2.heap.size) ∧ k_ ≠ w.heap.size + 1) (by refine Kd.S_far (p := ⟨w.heap.size + 1, 6, none⟩) ?_ (fun k_ hk_ => hk_.2) _; refine Kd.S_far (p := ⟨w.heap.size + 1, 5, none⟩) ?_ (fun k_ hk_ => hk_.2) _; refine Kd.S_far (p := ⟨w.heap.size + 1, 4, none⟩) ?_ (fun k_ hk_ => hk_.2) _; refine Kd.S_far (p := ⟨w.heap.size + 1, 3, none⟩) ?_ (fun k_ hk_ => hk_.2) _; refine Kd.S_far (p := ⟨w.heap.size + 1, 2, none⟩) ?_ (fun k_ hk_ => hk_.2) _; refine Kd.S_far (p := ⟨w.heap.size + 1, 1, none⟩) ?_ (fun k_ hk_ => hk_.2) _; refine Kd.S_far (p := ⟨w.heap.size + 1, 0, none⟩) ?_ (fun k_ hk_ => hk_.2) _; exact HS3.out) (fun _ _ => trivial), Kd.R_mono (ok := fun k_ => (True ∧ k_ ≠ w2.heap.size) ∧ k_ ≠ w.heap.size + 1) (by refine Kd.R_far (p := ⟨w.heap.size + 1, 6, none⟩) ?_ (fun k_ hk_ => hk_.2) _; refine Kd.R_far (p := ⟨w.heap.size + 1, 5, none⟩) ?_ (fun k_ hk_ => hk_.2) _; refine Kd.R_far (p := ⟨w.heap.size + 1, 4, none⟩) ?_ (fun k_ hk_ => hk_.2) _; refine Kd.R_far (p := ⟨w.heap.size + 1, 3, none⟩) ?_ (fun k_ hk_ => hk_.2) _; refine Kd.R_far (p := ⟨w.heap.size + 1, 2, none⟩) ?_ (fun k_ hk_ => hk_.2) _; refine Kd.R_far (p := ⟨w.heap.size + 1, 1, none⟩) ?_ (fun k_ hk_ => hk_.2) _; refine Kd.R_far (p := ⟨w.heap.size + 1, 0, none⟩) ?_ (fun k_ hk_ => hk_.2) _; exact HR3.out) (fun _ _ => trivial), Kd.R_mono (ok := fun k_ => True ∧ k_ ≠ w.heap.size + 1) (by refine Kd.R_far (p := ⟨w.heap.size + 1, 6, none⟩) ?_ (fun k_ hk_ => hk_.2) _; refine Kd.R_far (p := ⟨w.heap.size + 1, 5, none⟩) ?_ (fun k_ hk_ => hk_.2) _; refine Kd.R_far (p := ⟨w.heap.size + 1, 4, none⟩) ?_ (fun k_ hk_ => hk_.2) _; refine Kd.R_far (p := ⟨w.heap.size + 1, 3, none⟩) ?_ (fun k_ hk_ => hk_.2) _; refine Kd.R_far (p := ⟨w.heap.size + 1, 2, none⟩) ?_ (fun k_ hk_ => hk_.2) _; refine Kd.R_far (p := ⟨w.heap.size + 1, 1, none⟩) ?_ (fun k_ hk_ => hk_.2) _; refine Kd.R_far (p := ⟨w.heap.size + 1, 0, none⟩) ?_ (fun k_ hk_ => hk_.2) _; exact HW3.out) (fun _ _ => trivial), by repeat (first | (with_reducible first | exact HB.out | refine below_set ?_ (Nat.le_succ _) | apply below_alloc | apply pw_below_drewN | apply below_drew1) | exact HB.out)⟩
    · rw [if_neg hok] at h1
      exact absurd h1 (by simp)
end Go.Proofs.Ytmkcbbbknbahgaa.P
namespace Go.Proofs.Ytmkcbbbknbahgaa.P
open Go.RowKit Go.Proofs.YtmkcbbbknbahgaaW.PrintWords Go.Proofs.YtmkcbbbknbahgaaW.PrintLast Go.Proofs.YtmkcbbbknbahgaaW.PrintMore
attribute [local go_sem] max2_int min2_int max_two min_two max_three min_three max_four min_four   -- for this text's walks alone
set_option linter.unusedVariables false
set_option linter.unusedSimpArgs false

def impl_Give.f (k : Nat) (l0_0 : List (List Int)) (a0_1 : Int) (a0_2 : Int) (a0_3 : Int) (a0_4 : Int) (a0_5 : Int) (l0_6 : List Int) (a1_0 : Int) (a1_1 : Int) : Option ((List (List Int)) × Int × Int × Int × Int × Int × List Int × Int × Int × Int × Int × Bool) := (impl_GiveAll.f k l0_0 a0_1 a0_2 a0_3 a0_4 a0_5 l0_6 (([(⟨a1_0, a1_1⟩ : S74)] : List (S74)))).bind fun bt808 => (if bt808.2.2.2.2.2.2.2.2 = true then (if 0 < (bt808.2.2.2.2.2.2.2.1.length : Int) then (some (bt808.1, bt808.2.1, bt808.2.2.1, bt808.2.2.2.1, bt808.2.2.2.2.1, bt808.2.2.2.2.2.1, bt808.2.2.2.2.2.2.1, (rd_T32 bt808.2.2.2.2.2.2.2.1 0).f0, (rd_T32 bt808.2.2.2.2.2.2.2.1 0).f1, (rd_T32 bt808.2.2.2.2.2.2.2.1 0).f2, (rd_T32 bt808.2.2.2.2.2.2.2.1 0).f3, true)) else (none)) else (some (([] : List (List Int)), 0, 0, 0, 0, 0, ([] : List Int), 0, 0, 0, 0, false)))

set_option maxHeartbeats 8000000 in
set_option maxRecDepth 100000 in
theorem impl_Give.calls (k : Nat) (A0_0 : Option Addr) (c0_0 : Nat) (l0_0 : List (List Int)) (a0_1 : Int) (a0_2 : Int) (a0_3 : Int) (a0_4 : Int) (a0_5 : Int) (A0_6 : Option Addr) (c0_6 : Nat) (l0_6 : List Int) (a1_0 : Int) (a1_1 : Int) (r1 : List (List Int)) (r2 : Int) (r3 : Int) (r4 : Int) (r5 : Int) (r6 : Int) (r7 : List Int) (r8 : Int) (r9 : Int) (r10 : Int) (r11 : Int) (r12 : Bool) (w : World) (hr0_0 : Kd.C (Kd.slice 5 (Kd.int .u8)) w A0_0 l0_0.length l0_0) (hc0_0 : l0_0.length ≤ c0_0) (hr0_6 : Kd.C (Kd.int .i64) w A0_6 l0_6.length l0_6) (hc0_6 : l0_6.length ≤ c0_6) (h : impl_Give.f k l0_0 a0_1 a0_2 a0_3 a0_4 a0_5 l0_6 a1_0 a1_1 = some (r1, r2, r3, r4, r5, r6, r7, r8, r9, r10, r11, r12)) :
  Calls Try.prog 39 #[.agg #[.slice A0_0 l0_0.length c0_0, .int .i64 a0_1, .int .i64 a0_2, .int .i64 a0_3, .int .i64 a0_4, .int .i64 a0_5, .slice A0_6 l0_6.length c0_6], .agg #[.int .i64 a1_0, .int .i64 a1_1]] w fun e w' => ∃ v0_ v6_ : Value, e = .returned (.tuple #[.agg #[v0_, .int .i64 r2, .int .i64 r3, .int .i64 r4, .int .i64 r5, .int .i64 r6, v6_], .agg #[.int .i64 r8, .int .i64 r9, .int .i64 r10, .int .i64 r11], .bool r12]) ∧ Kd.S (Kd.slice 5 (Kd.int .u8)) 29 w' w.heap.size (fun _ => True) v0_ r1 ∧ Kd.R (Kd.int .i64) 3 w' w.heap.size (fun _ => True) v6_ r7 ∧ Below w.heap.size w w' := by
 have hu70 := Try.underlying70
 have hu74 := Try.underlying74
 have hu32 := Try.underlying32
 have HR0_0 := Aside0.mk hr0_0
 have HC0_0 := Aside0.mk hc0_0
 clear hr0_0 hc0_0
 have HR0_6 := Aside0.mk hr0_6
 have HC0_6 := Aside0.mk hc0_6
 clear hr0_6 hc0_6
 have HB := Aside0.mk (Below.refl w.heap.size w)
 have H : ((impl_GiveAll.f k l0_0 a0_1 a0_2 a0_3 a0_4 a0_5 l0_6 (([(⟨a1_0, a1_1⟩ : S74)] : List (S74)))).bind fun bt808 => (if bt808.2.2.2.2.2.2.2.2 = true then (if 0 < (bt808.2.2.2.2.2.2.2.1.length : Int) then (some (bt808.1, bt808.2.1, bt808.2.2.1, bt808.2.2.2.1, bt808.2.2.2.2.1, bt808.2.2.2.2.2.1, bt808.2.2.2.2.2.2.1, (rd_T32 bt808.2.2.2.2.2.2.2.1 0).f0, (rd_T32 bt808.2.2.2.2.2.2.2.1 0).f1, (rd_T32 bt808.2.2.2.2.2.2.2.1 0).f2, (rd_T32 bt808.2.2.2.2.2.2.2.1 0).f3, true)) else (none)) else (some (([] : List (List Int)), 0, 0, 0, 0, 0, ([] : List Int), 0, 0, 0, 0, false)))) = some (r1, r2, r3, r4, r5, r6, r7, r8, r9, r10, r11, r12) := h
 clear h
 obtain ⟨y805, hy805⟩ : ∃ y_ : List (S74), y_ = (([(⟨a1_0, a1_1⟩ : S74)] : List (S74))) := ⟨_, rfl⟩
 replace H : ((impl_GiveAll.f k l0_0 a0_1 a0_2 a0_3 a0_4 a0_5 l0_6 y805).bind fun bt808 => (if bt808.2.2.2.2.2.2.2.2 = true then (if 0 < (bt808.2.2.2.2.2.2.2.1.length : Int) then (some (bt808.1, bt808.2.1, bt808.2.2.1, bt808.2.2.2.1, bt808.2.2.2.2.1, bt808.2.2.2.2.2.1, bt808.2.2.2.2.2.2.1, (rd_T32 bt808.2.2.2.2.2.2.2.1 0).f0, (rd_T32 bt808.2.2.2.2.2.2.2.1 0).f1, (rd_T32 bt808.2.2.2.2.2.2.2.1 0).f2, (rd_T32 bt808.2.2.2.2.2.2.2.1 0).f3, true)) else (none)) else (some (([] : List (List Int)), 0, 0, 0, 0, 0, ([] : List Int), 0, 0, 0, 0, false)))) = some (r1, r2, r3, r4, r5, r6, r7, r8, r9, r10, r11, r12) := by first | (rw [hy805]; with_reducible exact H) | (have H2_ := (Option.bind_some _ _).symm.trans H; rw [hy805]; with_reducible exact H2_) | (have H2_ := (Option.bind_some _ _).symm.trans H; with_reducible exact H2_) | with_reducible exact H | (rw [hy805]; exact H) | exact H
 have Ny805 := Aside0.mk hy805
 clear hy805
 replace H := Option.bind_eq_some_iff.mp H
 obtain ⟨⟨t808, t811, t812, t813, t814, t815, t816, t819, t822⟩, A30, H⟩ := H
 replace H : (if t822 = true then (if 0 < (t819.length : Int) then (some (t808, t811, t812, t813, t814, t815, t816, (rd_T32 t819 0).f0, (rd_T32 t819 0).f1, (rd_T32 t819 0).f2, (rd_T32 t819 0).f3, true)) else (none)) else (some (([] : List (List Int)), 0, 0, 0, 0, 0, ([] : List Int), 0, 0, 0, 0, false))) = some (r1, r2, r3, r4, r5, r6, r7, r8, r9, r10, r11, r12) := H
 have A3 := Aside0.mk A30
 clear A30
 by_cases c4 : t822 = true
 ·subst c4
  rw [if_pos rfl] at H
  by_cases c5 : 0 < (t819.length : Int)
  ·rw [if_pos c5] at H
   have c5b0 : decide (0 < (t819.length : Int)) = true := decide_eq_true c5
   have c5b1 : decide (0 < t819.length) = true := decide_eq_true (by omega)
   clear c5
   simp only [Option.some.injEq, Prod.mk.injEq] at H
   obtain ⟨rfl, rfl, rfl, rfl, rfl, rfl, rfl, rfl, rfl, rfl, rfl, rfl⟩ := H
   go_enter Try.func39, Try.ntmps39
   try go_wp2_with (first | ((with_reducible refine gate_dst (N := 2) rfl ?_); refine box_event ?hg (N := 2) ?hd (cs := #[.slice A0_0 l0_0.length c0_0, .int .i64 a0_1, .int .i64 a0_2, .int .i64 a0_3, .int .i64 a0_4, .int .i64 a0_5, .slice A0_6 l0_6.length c0_6]) (t := 70) ?hr ?_; (case hd => rfl); (case hg => rfl); (case hr => exact gs_); intro gb801 hg w6 hbox hb; have BK801 := Aside0.mk (hbox); have GW801 := gE_ HB hg; have GE801 := gE_ HB hg; replace HB := Aside0.mk (below_step (by repeat (first | (with_reducible first | exact HB.out | apply ba_ | apply bn_ | apply bd_) | exact HB.out)) hb); clear hb hbox hg) | ((with_reducible refine gate_dst (N := 3) rfl ?_); refine box_event ?hg (N := 3) ?hd (cs := #[.int .i64 a1_0, .int .i64 a1_1]) (t := 74) ?hr ?_; (case hd => rfl); (case hg => rfl); (case hr => exact gs_); intro gb802 hg w7 hbox hb; have BK802 := Aside0.mk (hbox); have GW802 := gE_ HB hg; have GE802 := gE_ HB hg; replace HB := Aside0.mk (below_step (by repeat (first | (with_reducible first | exact HB.out | apply ba_ | apply bn_ | apply bd_ | refine bset_ ?_ (by assumption)) | exact HB.out)) hb); have NB801_802 := nB_ BK801 hg; have NB802_801 := nA_ BK801 hg; replace BK801 := bB_ BK801 hb; clear hb hbox hg) | ((with_reducible refine gate_dst (N := 4) rfl ?_); refine box_event ?hg (N := 4) ?hd (cs := #[.slice none 0 0, .int .i64 0, .int .i64 0, .int .i64 0, .int .i64 0, .int .i64 0, .slice none 0 0]) (t := 70) ?hr ?_; (case hd => rfl); (case hg => rfl); (case hr => exact gs_); intro gb803 hg w8 hbox hb; have BK803 := Aside0.mk (hbox); have GW803 := gE_ HB hg; have GE803 := gE_ HB hg; replace HB := Aside0.mk (below_step (by repeat (first | (with_reducible first | exact HB.out | apply ba_ | apply bn_ | apply bd_ | refine bset_ ?_ (by assumption)) | exact HB.out)) hb); have NB801_803 := nB_ BK801 hg; have NB803_801 := nA_ BK801 hg; replace BK801 := bB_ BK801 hb; have NB802_803 := nB_ BK802 hg; have NB803_802 := nA_ BK802 hg; replace BK802 := bB_ BK802 hb; clear hb hbox hg) | ((with_reducible refine gate_dst (N := 5) rfl ?_); refine box_event ?hg (N := 5) ?hd (cs := #[.int .i64 0, .int .i64 0, .int .i64 0, .int .i64 0]) (t := 32) ?hr ?_; (case hd => rfl); (case hg => rfl); (case hr => exact gs_); intro gb804 hg w9 hbox hb; have BK804 := Aside0.mk (hbox); have GW804 := gE_ HB hg; have GE804 := gE_ HB hg; replace HB := Aside0.mk (below_step (by repeat (first | (with_reducible first | exact HB.out | apply ba_ | apply bn_ | apply bd_ | refine bset_ ?_ (by assumption)) | exact HB.out)) hb); have NB801_804 := nB_ BK801 hg; have NB804_801 := nA_ BK801 hg; replace BK801 := bB_ BK801 hb; have NB802_804 := nB_ BK802 hg; have NB804_802 := nA_ BK802 hg; replace BK802 := bB_ BK802 hb; have NB803_804 := nB_ BK803 hg; have NB804_803 := nA_ BK803 hg; replace BK803 := bB_ BK803 hb; clear hb hbox hg; have hnb10 := NB801_802.out; have hnc10 := NB802_801.out; have hnb11 := NB801_803.out; have hnc11 := NB803_801.out; have hnb12 := NB801_804.out; have hnc12 := NB804_801.out; obtain ⟨hcz13_0, hcz13_1, hcz13_2, hcz13_3, hcz13_4, hcz13_5, hcz13_6, hfz13_0, hfz13_1, hfz13_2, hfz13_3, hfz13_4, hfz13_5, hfz13_6⟩ := zc7_ BK801; have hnb14 := NB802_803.out; have hnc14 := NB803_802.out; have hnb15 := NB802_804.out; have hnc15 := NB804_802.out; obtain ⟨hcz16_0, hcz16_1, hfz16_0, hfz16_1⟩ := zc2_ BK802) | ((with_reducible refine gate_dst (N := 13) rfl ?_); refine Kd.R_lit k74 _ 74 ?hg (N := 13) ?hd (xs := ([(⟨a1_0, a1_1⟩ : S74)] : List (S74))) (inner := [.int .i64 a1_0, .int .i64 a1_1]) (ok := fun _ => True) (okp := fun _ => True) ?hr ?hp (fun _ hk => hk) trivial (Below.refl _ _) (Nat.le_refl _) (by simp) ?_; (case hd => rfl); (case hg => rfl); (case hr => exact gs_); (case hp => exact (Reps.c2 (show Kd.M k74 _ _ _ (⟨a1_0, a1_1⟩ : S74) [.int .i64 a1_0, .int .i64 a1_1] from (k74_mkM _ _ _ (⟨a1_0, a1_1⟩ : S74) )) (Reps.none _ _))); intro v806 w17 ho18 hb hg_ hnew_; clear hg_ hnew_; (first | rw [← Ny805.out] at ho18 | (simp only [Int.reduceToNat] at ho18; rw [← Ny805.out] at ho18)); have HO807 := Aside0.mk (rL_ (Kd.R_newB ho18 (g := gb802) (o := .cells #[.int .i64 a1_0, .int .i64 a1_1] 74 (0, 0)) (bK_ BK802)) HB); replace BK801 := bB_ BK801 hb; replace BK802 := bB_ BK802 hb; replace BK803 := bB_ BK803 hb; replace BK804 := bB_ BK804 hb; replace HB := Aside0.mk (below_step (by repeat (first | (with_reducible first | exact HB.out | apply ba_ | apply bn_ | apply bd_ | refine bset_ ?_ (by assumption)) | exact HB.out)) hb); clear hb ho18; obtain ⟨Ao19, co19, eo19⟩ := Kd.R_slice HO807.out; subst eo19) | ((with_reducible refine gate_callee (f := 49) rfl ?_); refine goesL_ (some 14) rfl rfl Try.func49 (by kernel_rfl) rfl #[.agg #[.slice A0_0 l0_0.length c0_0, .int .i64 a0_1, .int .i64 a0_2, .int .i64 a0_3, .int .i64 a0_4, .int .i64 a0_5, .slice A0_6 l0_6.length c0_6], .slice Ao19 y805.length co19] rfl ar_ ?_; (with_reducible refine (impl_GiveAll.calls k _ _ l0_0 a0_1 a0_2 a0_3 a0_4 a0_5 _ _ l0_6 _ _ y805 t808 t811 t812 t813 t814 t815 t816 t819 true _ ?side1 ?side2 ?side3 ?side4 ?side5 ?side6 A3.out).mono ?_); (case side1 => exact cS_ (Kd.C_below HR0_0.out HB.out)); (case side2 => exact HC0_0.out); (case side3 => exact cS_ (Kd.C_below HR0_6.out HB.out)); (case side4 => exact HC0_6.out); (case side5 => repeat (first | exact (Kd.R_reads' HO807.out).2.2 | (with_reducible refine Kd.C_alloc ?_ _) | (with_reducible refine Kd.C_drewN ?_ _) | (with_reducible refine Kd.C_drew ?_))); (case side6 => exact (Kd.R_reads' HO807.out).2.1); rintro e w20 ⟨v809, v817, v820, rfl, ho0, ho1, ho2, hb⟩; refine ⟨_, rfl, ?_⟩; replace HO807 := Aside0.mk (Kd.R_below (rK_ HO807) hb); have HO810 := Aside0.mk (sL_ ho0 HB); have HO818 := Aside0.mk (rL_ ho1 HB); have HO821 := Aside0.mk (rL_ (Kd.R_newB ho2 (g := gb804) (o := .cells #[.int .i64 0, .int .i64 0, .int .i64 0, .int .i64 0] 32 (0, 0)) (bK_ BK804)) HB); replace BK801 := bB_ BK801 hb; replace BK802 := bB_ BK802 hb; replace BK803 := bB_ BK803 hb; replace BK804 := bB_ BK804 hb; replace HB := Aside0.mk (below_step (by repeat (first | (with_reducible first | exact HB.out | apply ba_ | apply bn_ | apply bd_ | refine bset_ ?_ (by assumption)) | exact HB.out)) hb); (try clear hb); (try clear hb2); (try clear hk); (try clear hi); (try clear ho0); (try clear ho1); (try clear ho2)) | ((with_reducible refine gate_dst (N := 7) rfl ?_); refine box_event ?hg (N := 7) ?hd (cs := #[.slice none 0 0, .int .i64 0, .int .i64 0, .int .i64 0, .int .i64 0, .int .i64 0, .slice none 0 0]) (t := 70) ?hr ?_; (case hd => rfl); (case hg => rfl); (case hr => exact gs_); intro gb823 hg w21 hbox hb; replace HO807 := Aside0.mk (Kd.R_below (rK_ HO807) hb); replace HO810 := Aside0.mk (Kd.S_below (sK_ HO810) hb); replace HO818 := Aside0.mk (Kd.R_below (rK_ HO818) hb); replace HO821 := Aside0.mk (Kd.R_below (rK_ HO821) hb); have BK823 := Aside0.mk (hbox); have GW823 := gE_ HB hg; have GE823 := gE_ HB hg; replace HB := Aside0.mk (below_step (by repeat (first | (with_reducible first | exact HB.out | apply ba_ | apply bn_ | apply bd_ | refine bset_ ?_ (by assumption)) | exact HB.out)) hb); have NB801_823 := nB_ BK801 hg; have NB823_801 := nA_ BK801 hg; replace BK801 := bB_ BK801 hb; have NB802_823 := nB_ BK802 hg; have NB823_802 := nA_ BK802 hg; replace BK802 := bB_ BK802 hb; have NB803_823 := nB_ BK803 hg; have NB823_803 := nA_ BK803 hg; replace BK803 := bB_ BK803 hb; have NB804_823 := nB_ BK804 hg; have NB823_804 := nA_ BK804 hg; replace BK804 := bB_ BK804 hb; clear hb hbox hg; obtain ⟨Ao22, co22, eo22⟩ := Kd.S_slice HO810.out; subst eo22; have hnb23 := NB823_801.out; have hnc23 := NB801_823.out; have hnb24 := NB823_802.out; have hnc24 := NB802_823.out; have hnb25 := NB823_803.out; have hnc25 := NB803_823.out; have hnb26 := NB823_804.out; have hnc26 := NB804_823.out; obtain ⟨hcz27_0, hcz27_1, hcz27_2, hcz27_3, hcz27_4, hcz27_5, hcz27_6, hfz27_0, hfz27_1, hfz27_2, hfz27_3, hfz27_4, hfz27_5, hfz27_6⟩ := zc7_ BK823; obtain ⟨Ao28, co28, eo28⟩ := Kd.R_slice HO818.out; subst eo28))
   have n0_ : Aside0 (Kd.R k74 74 (((((((w21.setCell ⟨gb823, 0, none⟩ (.slice Ao22 t808.length co22)).setCell ⟨gb823, 1, none⟩ (.int .i64 t811)).setCell ⟨gb823, 2, none⟩ (.int .i64 t812)).setCell ⟨gb823, 3, none⟩ (.int .i64 t813)).setCell ⟨gb823, 4, none⟩ (.int .i64 t814)).setCell ⟨gb823, 5, none⟩ (.int .i64 t815)).setCell ⟨gb823, 6, none⟩ (.slice Ao28 t816.length co28)) w.heap.size (fun k_ => k_ ≠ gb802) (.slice Ao19 y805.length co19) y805) := ⟨by (with_reducible repeat first | apply kr1_ | apply kr2_ | apply kr3_); exact Kd.R_mono (rf7_ gb823 (Kd.R_types HO807.out BK823.out (by decide)) (fun _ hk => hk.2)) (fun _ hk => hk.1.2)⟩
   have n1_ : Aside0 (Kd.S (Kd.slice 5 (Kd.int .u8)) 29 (((((((w21.setCell ⟨gb823, 0, none⟩ (.slice Ao22 t808.length co22)).setCell ⟨gb823, 1, none⟩ (.int .i64 t811)).setCell ⟨gb823, 2, none⟩ (.int .i64 t812)).setCell ⟨gb823, 3, none⟩ (.int .i64 t813)).setCell ⟨gb823, 4, none⟩ (.int .i64 t814)).setCell ⟨gb823, 5, none⟩ (.int .i64 t815)).setCell ⟨gb823, 6, none⟩ (.slice Ao28 t816.length co28)) w.heap.size (fun _ => True) (.slice Ao22 t808.length co22) t808) := ⟨by (with_reducible repeat first | apply ks1_ | apply ks2_ | apply ks3_); exact Kd.S_mono (sf7_ gb823 (Kd.S_types HO810.out BK823.out (by decide)) (fun _ hk => hk.2)) (fun _ hk => trivial)⟩
   have n2_ : Aside0 (Kd.R (Kd.int .i64) 3 (((((((w21.setCell ⟨gb823, 0, none⟩ (.slice Ao22 t808.length co22)).setCell ⟨gb823, 1, none⟩ (.int .i64 t811)).setCell ⟨gb823, 2, none⟩ (.int .i64 t812)).setCell ⟨gb823, 3, none⟩ (.int .i64 t813)).setCell ⟨gb823, 4, none⟩ (.int .i64 t814)).setCell ⟨gb823, 5, none⟩ (.int .i64 t815)).setCell ⟨gb823, 6, none⟩ (.slice Ao28 t816.length co28)) w.heap.size (fun _ => True) (.slice Ao28 t816.length co28) t816) := ⟨by (with_reducible repeat first | apply kr1_ | apply kr2_ | apply kr3_); exact Kd.R_mono (rf7_ gb823 (Kd.R_types HO818.out BK823.out (by decide)) (fun _ hk => hk.2)) (fun _ hk => trivial)⟩
   have n3_ : Aside0 (Kd.R k32 32 (((((((w21.setCell ⟨gb823, 0, none⟩ (.slice Ao22 t808.length co22)).setCell ⟨gb823, 1, none⟩ (.int .i64 t811)).setCell ⟨gb823, 2, none⟩ (.int .i64 t812)).setCell ⟨gb823, 3, none⟩ (.int .i64 t813)).setCell ⟨gb823, 4, none⟩ (.int .i64 t814)).setCell ⟨gb823, 5, none⟩ (.int .i64 t815)).setCell ⟨gb823, 6, none⟩ (.slice Ao28 t816.length co28)) w.heap.size (fun k_ => k_ ≠ gb804) v820 t819) := ⟨by (with_reducible repeat first | apply kr1_ | apply kr2_ | apply kr3_); exact Kd.R_mono (rf7_ gb823 (Kd.R_types HO821.out BK823.out (by decide)) (fun _ hk => hk.2)) (fun _ hk => hk.1.2)⟩
   have n4_ : Aside0 ((((((((w21.setCell ⟨gb823, 0, none⟩ (.slice Ao22 t808.length co22)).setCell ⟨gb823, 1, none⟩ (.int .i64 t811)).setCell ⟨gb823, 2, none⟩ (.int .i64 t812)).setCell ⟨gb823, 3, none⟩ (.int .i64 t813)).setCell ⟨gb823, 4, none⟩ (.int .i64 t814)).setCell ⟨gb823, 5, none⟩ (.int .i64 t815)).setCell ⟨gb823, 6, none⟩ (.slice Ao28 t816.length co28)).heap[gb801]? = some (.cells #[.slice A0_0 l0_0.length c0_0, .int .i64 a0_1, .int .i64 a0_2, .int .i64 a0_3, .int .i64 a0_4, .int .i64 a0_5, .slice A0_6 l0_6.length c0_6] 70 (0, 0))) := ⟨by exact fB_ BK801⟩
   have n5_ : Aside0 ((((((((w21.setCell ⟨gb823, 0, none⟩ (.slice Ao22 t808.length co22)).setCell ⟨gb823, 1, none⟩ (.int .i64 t811)).setCell ⟨gb823, 2, none⟩ (.int .i64 t812)).setCell ⟨gb823, 3, none⟩ (.int .i64 t813)).setCell ⟨gb823, 4, none⟩ (.int .i64 t814)).setCell ⟨gb823, 5, none⟩ (.int .i64 t815)).setCell ⟨gb823, 6, none⟩ (.slice Ao28 t816.length co28)).heap[gb802]? = some (.cells #[.int .i64 a1_0, .int .i64 a1_1] 74 (0, 0))) := ⟨by exact fB_ BK802⟩
   have n6_ : Aside0 ((((((((w21.setCell ⟨gb823, 0, none⟩ (.slice Ao22 t808.length co22)).setCell ⟨gb823, 1, none⟩ (.int .i64 t811)).setCell ⟨gb823, 2, none⟩ (.int .i64 t812)).setCell ⟨gb823, 3, none⟩ (.int .i64 t813)).setCell ⟨gb823, 4, none⟩ (.int .i64 t814)).setCell ⟨gb823, 5, none⟩ (.int .i64 t815)).setCell ⟨gb823, 6, none⟩ (.slice Ao28 t816.length co28)).heap[gb803]? = some (.cells #[.slice none 0 0, .int .i64 0, .int .i64 0, .int .i64 0, .int .i64 0, .int .i64 0, .slice none 0 0] 70 (0, 0))) := ⟨by exact fB_ BK803⟩
   have n7_ : Aside0 ((((((((w21.setCell ⟨gb823, 0, none⟩ (.slice Ao22 t808.length co22)).setCell ⟨gb823, 1, none⟩ (.int .i64 t811)).setCell ⟨gb823, 2, none⟩ (.int .i64 t812)).setCell ⟨gb823, 3, none⟩ (.int .i64 t813)).setCell ⟨gb823, 4, none⟩ (.int .i64 t814)).setCell ⟨gb823, 5, none⟩ (.int .i64 t815)).setCell ⟨gb823, 6, none⟩ (.slice Ao28 t816.length co28)).heap[gb804]? = some (.cells #[.int .i64 0, .int .i64 0, .int .i64 0, .int .i64 0] 32 (0, 0))) := ⟨by exact fB_ BK804⟩
   have n8_ : Aside0 ((((((((w21.setCell ⟨gb823, 0, none⟩ (.slice Ao22 t808.length co22)).setCell ⟨gb823, 1, none⟩ (.int .i64 t811)).setCell ⟨gb823, 2, none⟩ (.int .i64 t812)).setCell ⟨gb823, 3, none⟩ (.int .i64 t813)).setCell ⟨gb823, 4, none⟩ (.int .i64 t814)).setCell ⟨gb823, 5, none⟩ (.int .i64 t815)).setCell ⟨gb823, 6, none⟩ (.slice Ao28 t816.length co28)).heap[gb823]? = some (.cells #[.slice Ao22 t808.length co22, .int .i64 t811, .int .i64 t812, .int .i64 t813, .int .i64 t814, .int .i64 t815, .slice Ao28 t816.length co28] 70 (0, 0))) := ⟨by exact fB_ BK823⟩
   have n9_ : Aside0 (Below w.heap.size w (((((((w21.setCell ⟨gb823, 0, none⟩ (.slice Ao22 t808.length co22)).setCell ⟨gb823, 1, none⟩ (.int .i64 t811)).setCell ⟨gb823, 2, none⟩ (.int .i64 t812)).setCell ⟨gb823, 3, none⟩ (.int .i64 t813)).setCell ⟨gb823, 4, none⟩ (.int .i64 t814)).setCell ⟨gb823, 5, none⟩ (.int .i64 t815)).setCell ⟨gb823, 6, none⟩ (.slice Ao28 t816.length co28))) := ⟨by repeat (first | (with_reducible first | exact HB.out | apply below_alloc | apply pw_below_drewN | apply below_drew1 | refine below_set ?_ GE801.out | refine below_set ?_ GE802.out | refine below_set ?_ GE803.out | refine below_set ?_ GE804.out | refine below_set ?_ GE823.out) | exact HB.out)⟩
   (try clear HO807)
   (try clear HO810)
   (try clear HO818)
   (try clear HO821)
   (try clear BK801)
   (try clear BK802)
   (try clear BK803)
   (try clear BK804)
   (try clear BK823)
   (try clear HB)
   generalize (((((((w21.setCell ⟨gb823, 0, none⟩ (.slice Ao22 t808.length co22)).setCell ⟨gb823, 1, none⟩ (.int .i64 t811)).setCell ⟨gb823, 2, none⟩ (.int .i64 t812)).setCell ⟨gb823, 3, none⟩ (.int .i64 t813)).setCell ⟨gb823, 4, none⟩ (.int .i64 t814)).setCell ⟨gb823, 5, none⟩ (.int .i64 t815)).setCell ⟨gb823, 6, none⟩ (.slice Ao28 t816.length co28)) = w29 at n0_ n1_ n2_ n3_ n4_ n5_ n6_ n7_ n8_ n9_ ⊢
   have HO807 := n0_
   have HO810 := n1_
   have HO818 := n2_
   have HO821 := n3_
   have BK801 := n4_
   have BK802 := n5_
   have BK803 := n6_
   have BK804 := n7_
   have BK823 := n8_
   have HB := n9_
   clear n0_ n1_ n2_ n3_ n4_ n5_ n6_ n7_ n8_ n9_
   replace HO807 := Aside0.mk (Kd.R_drew HO807.out)
   replace HO810 := Aside0.mk (Kd.S_drew HO810.out)
   replace HO818 := Aside0.mk (Kd.R_drew HO818.out)
   replace HO821 := Aside0.mk (Kd.R_drew HO821.out)
   replace BK801 := Aside0.mk (blk_drew BK801.out)
   replace BK802 := Aside0.mk (blk_drew BK802.out)
   replace BK803 := Aside0.mk (blk_drew BK803.out)
   replace BK804 := Aside0.mk (blk_drew BK804.out)
   replace BK823 := Aside0.mk (blk_drew BK823.out)
   replace HB := Aside0.mk (below_drew1 HB.out)
   obtain ⟨Ao31, co31, eo31⟩ := Kd.R_slice HO821.out
   (first | subst eo31 | (injection eo31 with f1_ f2_ f3_; have f4_ := f1_.symm; have f5_ := f3_.symm; clear f1_ f2_ f3_; subst f4_; subst f5_))
   have p824 : 0 ≤ (0 : Int) := (by omega)
   have q824 : 0 < (t819.length : Int) := of_decide_eq_true as_
   obtain ⟨ad824, e824, hx824_0, hx824_1, hx824_2, hx824_3⟩ := at_T32 (Kd.R_reads' HO821.out).2.2 0 p824 q824
   cases e824
   have qi824 : (0 < t819.length) = True := eq_true (by omega)
   (try rw [show ((0 : Int)).toNat = 0 from rfl] at hx824_0)
   (try rw [show 0 * 4 = 0 from rfl] at hx824_0)
   (try rw [Addr.add_zero'] at hx824_0)
   (try rw [show ((0 : Int)).toNat = 0 from rfl] at hx824_1)
   (try rw [show 0 * 4 = 0 from rfl] at hx824_1)
   (try rw [Addr.add_zero'] at hx824_1)
   (try rw [show ((0 : Int)).toNat = 0 from rfl] at hx824_2)
   (try rw [show 0 * 4 = 0 from rfl] at hx824_2)
   (try rw [Addr.add_zero'] at hx824_2)
   (try rw [show ((0 : Int)).toNat = 0 from rfl] at hx824_3)
   (try rw [show 0 * 4 = 0 from rfl] at hx824_3)
   (try rw [Addr.add_zero'] at hx824_3)
   replace p824 := eq_true p824
   replace q824 := eq_true q824
   refine start_ (n := 7) (S := fun w' => w'.cell? ⟨gb823, 0, none⟩ = some (.slice Ao22 t808.length co22) ∧ w'.cell? ⟨gb823, 1, none⟩ = some (.int .i64 t811) ∧ w'.cell? ⟨gb823, 2, none⟩ = some (.int .i64 t812) ∧ w'.cell? ⟨gb823, 3, none⟩ = some (.int .i64 t813) ∧ w'.cell? ⟨gb823, 4, none⟩ = some (.int .i64 t814) ∧ w'.cell? ⟨gb823, 5, none⟩ = some (.int .i64 t815) ∧ w'.cell? ⟨gb823, 6, none⟩ = some (.slice Ao28 t816.length co28) ∧ w'.cell? ad824 = some (.int .i64 ((rd_T32 t819 0).f0)) ∧ w'.cell? ⟨ad824.block, ad824.off + 1, none⟩ = some (.int .i64 ((rd_T32 t819 0).f1)) ∧ w'.cell? ⟨ad824.block, ad824.off + 2, none⟩ = some (.int .i64 ((rd_T32 t819 0).f2)) ∧ w'.cell? ⟨ad824.block, ad824.off + 3, none⟩ = some (.int .i64 ((rd_T32 t819 0).f3))) (ds := []) #[false, false, false, false, false, false, false] (by kernel_rfl) rfl rfl ⟨(blk_cell BK823.out 0).trans rfl, (blk_cell BK823.out 1).trans rfl, (blk_cell BK823.out 2).trans rfl, (blk_cell BK823.out 3).trans rfl, (blk_cell BK823.out 4).trans rfl, (blk_cell BK823.out 5).trans rfl, (blk_cell BK823.out 6).trans rfl, hx824_0, hx824_1, hx824_2, hx824_3⟩ (fun hHeld => ?_)
   generalize w29.drew = w30 at HO807 HO810 HO818 HO821 BK801 BK802 BK803 BK804 BK823 HB hx824_0 hx824_1 hx824_2 hx824_3 hHeld ⊢
   refine pure_ (i := 1) (N := some 23) (v := ?_) (a' := ?_) #[false, true, false, false, false, false, false] rfl rfl (by kernel_rfl) (fun _ _ _ h => h) (Or.inl ⟨by rfl, ?_⟩) ?_ ?_
   rotate_left
   ·intro w'
    go_simp
    with_reducible rfl
   rotate_left
   ·simp only [Act.put, List.setIfInBounds_toArray, List.set_cons_zero, List.set_cons_succ, i64_w, i32_w]
    rfl
   refine pure_ (i := 2) (N := some 24) (v := ?_) (a' := ?_) #[false, true, true, false, false, false, false] rfl rfl (by kernel_rfl) (fun _ _ _ h => h) (Or.inl ⟨by rfl, ?_⟩) ?_ ?_
   rotate_left
   ·intro w'
    go_simp
    with_reducible rfl
   rotate_left
   ·simp only [Act.put, List.setIfInBounds_toArray, List.set_cons_zero, List.set_cons_succ, i64_w, i32_w]
    rfl
   refine take_ (i := 0) (N := some 22) (v := ?_) (a' := ?_) #[true, true, true, false, false, false, false] rfl rfl (by kernel_rfl) (fun _ _ _ h => h) (Or.inl ⟨by rfl, ?_⟩) hHeld ?_ ?_
   rotate_left
   ·rintro w' ⟨s0, s1, s2, s3, s4, s5, s6, s7, s8, s9, s10⟩
    go_simp
    with_reducible rfl
   rotate_left
   ·simp only [Act.put, List.setIfInBounds_toArray, List.set_cons_zero, List.set_cons_succ, i64_w, i32_w]
    rfl
   refine take_ (i := 3) (N := some 25) (v := ?_) (a' := ?_) #[true, true, true, true, false, false, false] rfl rfl (by kernel_rfl) (fun _ _ _ h => h) (Or.inl ⟨by rfl, ?_⟩) hHeld ?_ ?_
   rotate_left
   ·rintro w' ⟨s0, s1, s2, s3, s4, s5, s6, s7, s8, s9, s10⟩
    go_simp
    with_reducible rfl
   rotate_left
   ·simp only [Act.put, List.setIfInBounds_toArray, List.set_cons_zero, List.set_cons_succ, i64_w, i32_w]
    rfl
   refine one_ (i := 4) (N := none) #[true, true, true, true, true, false, false] rfl rfl (by kernel_rfl) (by decide) (fun K hK => ?_)
   have hs32 : w30.cell? ⟨gb803, 0, none⟩ = some (.slice none 0 0) := (blk_cell BK803.out 0).trans rfl
   have hfs32 := blk_frozen BK803.out 0
   have hns32_0 := NB801_803.out
   have hns32_1 := NB802_803.out
   have hns32_3 := NB804_803.out
   have hns32_4 := NB823_803.out
   have hms32_0 := NB803_801.out
   have hms32_1 := NB803_802.out
   have hms32_3 := NB803_804.out
   have hms32_4 := NB803_823.out
   have hs33 : w30.cell? ⟨gb803, 1, none⟩ = some (.int .i64 0) := (blk_cell BK803.out 1).trans rfl
   have hfs33 := blk_frozen BK803.out 1
   have hs34 : w30.cell? ⟨gb803, 2, none⟩ = some (.int .i64 0) := (blk_cell BK803.out 2).trans rfl
   have hfs34 := blk_frozen BK803.out 2
   have hs35 : w30.cell? ⟨gb803, 3, none⟩ = some (.int .i64 0) := (blk_cell BK803.out 3).trans rfl
   have hfs35 := blk_frozen BK803.out 3
   have hs36 : w30.cell? ⟨gb803, 4, none⟩ = some (.int .i64 0) := (blk_cell BK803.out 4).trans rfl
   have hfs36 := blk_frozen BK803.out 4
   have hs37 : w30.cell? ⟨gb803, 5, none⟩ = some (.int .i64 0) := (blk_cell BK803.out 5).trans rfl
   have hfs37 := blk_frozen BK803.out 5
   have hs38 : w30.cell? ⟨gb803, 6, none⟩ = some (.slice none 0 0) := (blk_cell BK803.out 6).trans rfl
   have hfs38 := blk_frozen BK803.out 6
   refine skip_ (w1 := ?_) (by rfl) rfl ?_ ?_
   rotate_left
   ·go_simp
    rfl
   refine hK.out _ _ ⟨(by (with_reducible repeat (refine (cell_far (p := ⟨gb803, _, none⟩) NB823_803.out _).trans ?_)); exact hHeld.1), (by (with_reducible repeat (refine (cell_far (p := ⟨gb803, _, none⟩) NB823_803.out _).trans ?_)); exact hHeld.2.1), (by (with_reducible repeat (refine (cell_far (p := ⟨gb803, _, none⟩) NB823_803.out _).trans ?_)); exact hHeld.2.2.1), (by (with_reducible repeat (refine (cell_far (p := ⟨gb803, _, none⟩) NB823_803.out _).trans ?_)); exact hHeld.2.2.2.1), (by (with_reducible repeat (refine (cell_far (p := ⟨gb803, _, none⟩) NB823_803.out _).trans ?_)); exact hHeld.2.2.2.2.1), (by (with_reducible repeat (refine (cell_far (p := ⟨gb803, _, none⟩) NB823_803.out _).trans ?_)); exact hHeld.2.2.2.2.2.1), (by (with_reducible repeat (refine (cell_far (p := ⟨gb803, _, none⟩) NB823_803.out _).trans ?_)); exact hHeld.2.2.2.2.2.2.1), (by (with_reducible repeat (refine (cell_far (p := ⟨gb803, _, none⟩) (by first | exact Kd.own_blk (Kd.R_ne HO821.out BK803.out (by decide)) | (rw [add_block]; exact Kd.own_blk (Kd.R_ne HO821.out BK803.out (by decide))) | (show (Addr.add _ _).block ≠ _; rw [add_block]; exact Kd.own_blk (Kd.R_ne HO821.out BK803.out (by decide))) | (dsimp only; exact Kd.own_blk (Kd.R_ne HO821.out BK803.out (by decide)))) _).trans ?_)); exact hHeld.2.2.2.2.2.2.2.1), (by (with_reducible repeat (refine (cell_far (p := ⟨gb803, _, none⟩) (by first | exact Kd.own_blk (Kd.R_ne HO821.out BK803.out (by decide)) | (rw [add_block]; exact Kd.own_blk (Kd.R_ne HO821.out BK803.out (by decide))) | (show (Addr.add _ _).block ≠ _; rw [add_block]; exact Kd.own_blk (Kd.R_ne HO821.out BK803.out (by decide))) | (dsimp only; exact Kd.own_blk (Kd.R_ne HO821.out BK803.out (by decide)))) _).trans ?_)); exact hHeld.2.2.2.2.2.2.2.2.1), (by (with_reducible repeat (refine (cell_far (p := ⟨gb803, _, none⟩) (by first | exact Kd.own_blk (Kd.R_ne HO821.out BK803.out (by decide)) | (rw [add_block]; exact Kd.own_blk (Kd.R_ne HO821.out BK803.out (by decide))) | (show (Addr.add _ _).block ≠ _; rw [add_block]; exact Kd.own_blk (Kd.R_ne HO821.out BK803.out (by decide))) | (dsimp only; exact Kd.own_blk (Kd.R_ne HO821.out BK803.out (by decide)))) _).trans ?_)); exact hHeld.2.2.2.2.2.2.2.2.2.1), (by (with_reducible repeat (refine (cell_far (p := ⟨gb803, _, none⟩) (by first | exact Kd.own_blk (Kd.R_ne HO821.out BK803.out (by decide)) | (rw [add_block]; exact Kd.own_blk (Kd.R_ne HO821.out BK803.out (by decide))) | (show (Addr.add _ _).block ≠ _; rw [add_block]; exact Kd.own_blk (Kd.R_ne HO821.out BK803.out (by decide))) | (dsimp only; exact Kd.own_blk (Kd.R_ne HO821.out BK803.out (by decide)))) _).trans ?_)); exact hHeld.2.2.2.2.2.2.2.2.2.2)⟩ (fun hHeld => ?_)
   clear hK K
   refine one_ (i := 5) (N := none) #[true, true, true, true, true, true, false] rfl rfl (by kernel_rfl) (by decide) (fun K hK => ?_)
   have hs39 : w30.cell? ⟨gb804, 0, none⟩ = some (.int .i64 0) := (blk_cell BK804.out 0).trans rfl
   have hfs39 := blk_frozen BK804.out 0
   have hns39_0 := NB801_804.out
   have hns39_1 := NB802_804.out
   have hns39_2 := NB803_804.out
   have hns39_4 := NB823_804.out
   have hms39_0 := NB804_801.out
   have hms39_1 := NB804_802.out
   have hms39_2 := NB804_803.out
   have hms39_4 := NB804_823.out
   have hs40 : w30.cell? ⟨gb804, 1, none⟩ = some (.int .i64 0) := (blk_cell BK804.out 1).trans rfl
   have hfs40 := blk_frozen BK804.out 1
   have hs41 : w30.cell? ⟨gb804, 2, none⟩ = some (.int .i64 0) := (blk_cell BK804.out 2).trans rfl
   have hfs41 := blk_frozen BK804.out 2
   have hs42 : w30.cell? ⟨gb804, 3, none⟩ = some (.int .i64 0) := (blk_cell BK804.out 3).trans rfl
   have hfs42 := blk_frozen BK804.out 3
   first | (generalize hW9_ : World.setCell _ _ _ = W9_; refine skip_ (w1 := ?_) (by rfl) rfl ?_ ?_ <;> subst hW9_) | refine skip_ (w1 := ?_) (by rfl) rfl ?_ ?_
   rotate_left
   ·go_simp
    rfl
   refine hK.out _ _ ⟨(by (with_reducible repeat (refine (cell_far (p := ⟨gb804, _, none⟩) NB823_804.out _).trans ?_)); exact hHeld.1), (by (with_reducible repeat (refine (cell_far (p := ⟨gb804, _, none⟩) NB823_804.out _).trans ?_)); exact hHeld.2.1), (by (with_reducible repeat (refine (cell_far (p := ⟨gb804, _, none⟩) NB823_804.out _).trans ?_)); exact hHeld.2.2.1), (by (with_reducible repeat (refine (cell_far (p := ⟨gb804, _, none⟩) NB823_804.out _).trans ?_)); exact hHeld.2.2.2.1), (by (with_reducible repeat (refine (cell_far (p := ⟨gb804, _, none⟩) NB823_804.out _).trans ?_)); exact hHeld.2.2.2.2.1), (by (with_reducible repeat (refine (cell_far (p := ⟨gb804, _, none⟩) NB823_804.out _).trans ?_)); exact hHeld.2.2.2.2.2.1), (by (with_reducible repeat (refine (cell_far (p := ⟨gb804, _, none⟩) NB823_804.out _).trans ?_)); exact hHeld.2.2.2.2.2.2.1), (by (with_reducible repeat (refine (cell_far (p := ⟨gb804, _, none⟩) (by first | exact Kd.own_blk (Kd.R_away HO821.out (fun _ hk => hk)) | (rw [add_block]; exact Kd.own_blk (Kd.R_away HO821.out (fun _ hk => hk))) | (show (Addr.add _ _).block ≠ _; rw [add_block]; exact Kd.own_blk (Kd.R_away HO821.out (fun _ hk => hk))) | (dsimp only; exact Kd.own_blk (Kd.R_away HO821.out (fun _ hk => hk)))) _).trans ?_)); exact hHeld.2.2.2.2.2.2.2.1), (by (with_reducible repeat (refine (cell_far (p := ⟨gb804, _, none⟩) (by first | exact Kd.own_blk (Kd.R_away HO821.out (fun _ hk => hk)) | (rw [add_block]; exact Kd.own_blk (Kd.R_away HO821.out (fun _ hk => hk))) | (show (Addr.add _ _).block ≠ _; rw [add_block]; exact Kd.own_blk (Kd.R_away HO821.out (fun _ hk => hk))) | (dsimp only; exact Kd.own_blk (Kd.R_away HO821.out (fun _ hk => hk)))) _).trans ?_)); exact hHeld.2.2.2.2.2.2.2.2.1), (by (with_reducible repeat (refine (cell_far (p := ⟨gb804, _, none⟩) (by first | exact Kd.own_blk (Kd.R_away HO821.out (fun _ hk => hk)) | (rw [add_block]; exact Kd.own_blk (Kd.R_away HO821.out (fun _ hk => hk))) | (show (Addr.add _ _).block ≠ _; rw [add_block]; exact Kd.own_blk (Kd.R_away HO821.out (fun _ hk => hk))) | (dsimp only; exact Kd.own_blk (Kd.R_away HO821.out (fun _ hk => hk)))) _).trans ?_)); exact hHeld.2.2.2.2.2.2.2.2.2.1), (by (with_reducible repeat (refine (cell_far (p := ⟨gb804, _, none⟩) (by first | exact Kd.own_blk (Kd.R_away HO821.out (fun _ hk => hk)) | (rw [add_block]; exact Kd.own_blk (Kd.R_away HO821.out (fun _ hk => hk))) | (show (Addr.add _ _).block ≠ _; rw [add_block]; exact Kd.own_blk (Kd.R_away HO821.out (fun _ hk => hk))) | (dsimp only; exact Kd.own_blk (Kd.R_away HO821.out (fun _ hk => hk)))) _).trans ?_)); exact hHeld.2.2.2.2.2.2.2.2.2.2)⟩ (fun hHeld => ?_)
   clear hK K
   refine pure_ (i := 6) (N := some 6) (v := ?_) (a' := ?_) #[true, true, true, true, true, true, true] rfl rfl (by kernel_rfl) (fun _ _ _ h => h) (Or.inl ⟨by rfl, ?_⟩) ?_ ?_
   rotate_left
   ·intro w'
    go_simp
    with_reducible rfl
   rotate_left
   ·simp only [Act.put, List.setIfInBounds_toArray, List.set_cons_zero, List.set_cons_succ, i64_w, i32_w]
    rfl
   refine done_ (by kernel_rfl) ?_
   try go_wp2
   refine bodyPost_ret (results_list (rs := [.cell 4 70, .cell 5 32, .tmp 6]) rfl (by simp) (.cell gb803 70 #[.slice Ao22 t808.length co22, .int .i64 t811, .int .i64 t812, .int .i64 t813, .int .i64 t814, .int .i64 t815, .slice Ao28 t816.length co28] (0, 0) _ rfl (by exact fB_ BK803) Try.underlying70 rfl (by kernel_rfl) (.cell gb804 32 #[.int .i64 ((rd_T32 t819 0).f0), .int .i64 ((rd_T32 t819 0).f1), .int .i64 ((rd_T32 t819 0).f2), .int .i64 ((rd_T32 t819 0).f3)] (0, 0) _ rfl (by exact fB_ BK804) Try.underlying32 rfl (by kernel_rfl) (.tmp .nil)))) rfl ?_
   exact ⟨_, _, er_, by (with_reducible repeat first | apply ks1_ | apply ks2_ | apply ks3_); exact Kd.S_mono (sf4_ gb804 (sf7_ gb803 (Kd.S_types (Kd.S_types HO810.out BK803.out (by decide)) BK804.out (by decide)) (fun _ hk => hk.1.2)) (fun _ hk => hk.2)) (fun _ hk => trivial), by (with_reducible repeat first | apply kr1_ | apply kr2_ | apply kr3_); exact Kd.R_mono (rf4_ gb804 (rf7_ gb803 (Kd.R_types (Kd.R_types HO818.out BK803.out (by decide)) BK804.out (by decide)) (fun _ hk => hk.1.2)) (fun _ hk => hk.2)) (fun _ hk => trivial), by repeat (first | (with_reducible first | exact HB.out | apply below_alloc | apply pw_below_drewN | apply below_drew1 | refine below_set ?_ GE801.out | refine below_set ?_ GE802.out | refine below_set ?_ GE803.out | refine below_set ?_ GE804.out | refine below_set ?_ GE823.out) | exact HB.out)⟩
  ·rw [if_neg c5] at H
   exact absurd H (by simp)
 ·replace c4 := Bool.eq_false_iff.mpr c4
  subst c4
  rw [if_neg (show ¬ (false = true) by decide)] at H
  simp only [Option.some.injEq, Prod.mk.injEq] at H
  obtain ⟨rfl, rfl, rfl, rfl, rfl, rfl, rfl, rfl, rfl, rfl, rfl, rfl⟩ := H
  go_enter Try.func39, Try.ntmps39
  go_wp2_with (first | ((with_reducible refine gate_dst (N := 2) rfl ?_); refine box_event ?hg (N := 2) ?hd (cs := #[.slice A0_0 l0_0.length c0_0, .int .i64 a0_1, .int .i64 a0_2, .int .i64 a0_3, .int .i64 a0_4, .int .i64 a0_5, .slice A0_6 l0_6.length c0_6]) (t := 70) ?hr ?_; (case hd => rfl); (case hg => rfl); (case hr => exact gs_); intro gb801 hg w43 hbox hb; have BK801 := Aside0.mk (hbox); have GW801 := gE_ HB hg; have GE801 := gE_ HB hg; replace HB := Aside0.mk (below_step (by repeat (first | (with_reducible first | exact HB.out | apply ba_ | apply bn_ | apply bd_) | exact HB.out)) hb); clear hb hbox hg) | ((with_reducible refine gate_dst (N := 3) rfl ?_); refine box_event ?hg (N := 3) ?hd (cs := #[.int .i64 a1_0, .int .i64 a1_1]) (t := 74) ?hr ?_; (case hd => rfl); (case hg => rfl); (case hr => exact gs_); intro gb802 hg w44 hbox hb; have BK802 := Aside0.mk (hbox); have GW802 := gE_ HB hg; have GE802 := gE_ HB hg; replace HB := Aside0.mk (below_step (by repeat (first | (with_reducible first | exact HB.out | apply ba_ | apply bn_ | apply bd_ | refine bset_ ?_ (by assumption)) | exact HB.out)) hb); have NB801_802 := nB_ BK801 hg; have NB802_801 := nA_ BK801 hg; replace BK801 := bB_ BK801 hb; clear hb hbox hg) | ((with_reducible refine gate_dst (N := 4) rfl ?_); refine box_event ?hg (N := 4) ?hd (cs := #[.slice none 0 0, .int .i64 0, .int .i64 0, .int .i64 0, .int .i64 0, .int .i64 0, .slice none 0 0]) (t := 70) ?hr ?_; (case hd => rfl); (case hg => rfl); (case hr => exact gs_); intro gb803 hg w45 hbox hb; have BK803 := Aside0.mk (hbox); have GW803 := gE_ HB hg; have GE803 := gE_ HB hg; replace HB := Aside0.mk (below_step (by repeat (first | (with_reducible first | exact HB.out | apply ba_ | apply bn_ | apply bd_ | refine bset_ ?_ (by assumption)) | exact HB.out)) hb); have NB801_803 := nB_ BK801 hg; have NB803_801 := nA_ BK801 hg; replace BK801 := bB_ BK801 hb; have NB802_803 := nB_ BK802 hg; have NB803_802 := nA_ BK802 hg; replace BK802 := bB_ BK802 hb; clear hb hbox hg) | ((with_reducible refine gate_dst (N := 5) rfl ?_); refine box_event ?hg (N := 5) ?hd (cs := #[.int .i64 0, .int .i64 0, .int .i64 0, .int .i64 0]) (t := 32) ?hr ?_; (case hd => rfl); (case hg => rfl); (case hr => exact gs_); intro gb804 hg w46 hbox hb; have BK804 := Aside0.mk (hbox); have GW804 := gE_ HB hg; have GE804 := gE_ HB hg; replace HB := Aside0.mk (below_step (by repeat (first | (with_reducible first | exact HB.out | apply ba_ | apply bn_ | apply bd_ | refine bset_ ?_ (by assumption)) | exact HB.out)) hb); have NB801_804 := nB_ BK801 hg; have NB804_801 := nA_ BK801 hg; replace BK801 := bB_ BK801 hb; have NB802_804 := nB_ BK802 hg; have NB804_802 := nA_ BK802 hg; replace BK802 := bB_ BK802 hb; have NB803_804 := nB_ BK803 hg; have NB804_803 := nA_ BK803 hg; replace BK803 := bB_ BK803 hb; clear hb hbox hg; have hnb47 := NB801_802.out; have hnc47 := NB802_801.out; have hnb48 := NB801_803.out; have hnc48 := NB803_801.out; have hnb49 := NB801_804.out; have hnc49 := NB804_801.out; obtain ⟨hcz50_0, hcz50_1, hcz50_2, hcz50_3, hcz50_4, hcz50_5, hcz50_6, hfz50_0, hfz50_1, hfz50_2, hfz50_3, hfz50_4, hfz50_5, hfz50_6⟩ := zc7_ BK801; have hnb51 := NB802_803.out; have hnc51 := NB803_802.out; have hnb52 := NB802_804.out; have hnc52 := NB804_802.out; obtain ⟨hcz53_0, hcz53_1, hfz53_0, hfz53_1⟩ := zc2_ BK802) | ((with_reducible refine gate_dst (N := 13) rfl ?_); refine Kd.R_lit k74 _ 74 ?hg (N := 13) ?hd (xs := ([(⟨a1_0, a1_1⟩ : S74)] : List (S74))) (inner := [.int .i64 a1_0, .int .i64 a1_1]) (ok := fun _ => True) (okp := fun _ => True) ?hr ?hp (fun _ hk => hk) trivial (Below.refl _ _) (Nat.le_refl _) (by simp) ?_; (case hd => rfl); (case hg => rfl); (case hr => exact gs_); (case hp => exact (Reps.c2 (show Kd.M k74 _ _ _ (⟨a1_0, a1_1⟩ : S74) [.int .i64 a1_0, .int .i64 a1_1] from (k74_mkM _ _ _ (⟨a1_0, a1_1⟩ : S74) )) (Reps.none _ _))); intro v806 w54 ho55 hb hg_ hnew_; clear hg_ hnew_; (first | rw [← Ny805.out] at ho55 | (simp only [Int.reduceToNat] at ho55; rw [← Ny805.out] at ho55)); have HO807 := Aside0.mk (rL_ (Kd.R_newB ho55 (g := gb802) (o := .cells #[.int .i64 a1_0, .int .i64 a1_1] 74 (0, 0)) (bK_ BK802)) HB); replace BK801 := bB_ BK801 hb; replace BK802 := bB_ BK802 hb; replace BK803 := bB_ BK803 hb; replace BK804 := bB_ BK804 hb; replace HB := Aside0.mk (below_step (by repeat (first | (with_reducible first | exact HB.out | apply ba_ | apply bn_ | apply bd_ | refine bset_ ?_ (by assumption)) | exact HB.out)) hb); clear hb ho55; obtain ⟨Ao56, co56, eo56⟩ := Kd.R_slice HO807.out; subst eo56) | ((with_reducible refine gate_callee (f := 49) rfl ?_); refine goesL_ (some 14) rfl rfl Try.func49 (by kernel_rfl) rfl #[.agg #[.slice A0_0 l0_0.length c0_0, .int .i64 a0_1, .int .i64 a0_2, .int .i64 a0_3, .int .i64 a0_4, .int .i64 a0_5, .slice A0_6 l0_6.length c0_6], .slice Ao56 y805.length co56] rfl ar_ ?_; (with_reducible refine (impl_GiveAll.calls k _ _ l0_0 a0_1 a0_2 a0_3 a0_4 a0_5 _ _ l0_6 _ _ y805 t808 t811 t812 t813 t814 t815 t816 t819 false _ ?side1 ?side2 ?side3 ?side4 ?side5 ?side6 A3.out).mono ?_); (case side1 => exact cS_ (Kd.C_below HR0_0.out HB.out)); (case side2 => exact HC0_0.out); (case side3 => exact cS_ (Kd.C_below HR0_6.out HB.out)); (case side4 => exact HC0_6.out); (case side5 => repeat (first | exact (Kd.R_reads' HO807.out).2.2 | (with_reducible refine Kd.C_alloc ?_ _) | (with_reducible refine Kd.C_drewN ?_ _) | (with_reducible refine Kd.C_drew ?_))); (case side6 => exact (Kd.R_reads' HO807.out).2.1); rintro e w57 ⟨v809, v817, v820, rfl, ho0, ho1, ho2, hb⟩; refine ⟨_, rfl, ?_⟩; replace HO807 := Aside0.mk (Kd.R_below (rK_ HO807) hb); have HO810 := Aside0.mk (sL_ ho0 HB); have HO818 := Aside0.mk (rL_ ho1 HB); have HO821 := Aside0.mk (rL_ (Kd.R_newB ho2 (g := gb804) (o := .cells #[.int .i64 0, .int .i64 0, .int .i64 0, .int .i64 0] 32 (0, 0)) (bK_ BK804)) HB); replace BK801 := bB_ BK801 hb; replace BK802 := bB_ BK802 hb; replace BK803 := bB_ BK803 hb; replace BK804 := bB_ BK804 hb; replace HB := Aside0.mk (below_step (by repeat (first | (with_reducible first | exact HB.out | apply ba_ | apply bn_ | apply bd_ | refine bset_ ?_ (by assumption)) | exact HB.out)) hb); (try clear hb); (try clear hb2); (try clear hk); (try clear hi); (try clear ho0); (try clear ho1); (try clear ho2)) | ((with_reducible refine gate_dst (N := 7) rfl ?_); refine box_event ?hg (N := 7) ?hd (cs := #[.slice none 0 0, .int .i64 0, .int .i64 0, .int .i64 0, .int .i64 0, .int .i64 0, .slice none 0 0]) (t := 70) ?hr ?_; (case hd => rfl); (case hg => rfl); (case hr => exact gs_); intro gb823 hg w58 hbox hb; replace HO807 := Aside0.mk (Kd.R_below (rK_ HO807) hb); replace HO810 := Aside0.mk (Kd.S_below (sK_ HO810) hb); replace HO818 := Aside0.mk (Kd.R_below (rK_ HO818) hb); replace HO821 := Aside0.mk (Kd.R_below (rK_ HO821) hb); have BK823 := Aside0.mk (hbox); have GW823 := gE_ HB hg; have GE823 := gE_ HB hg; replace HB := Aside0.mk (below_step (by repeat (first | (with_reducible first | exact HB.out | apply ba_ | apply bn_ | apply bd_ | refine bset_ ?_ (by assumption)) | exact HB.out)) hb); have NB801_823 := nB_ BK801 hg; have NB823_801 := nA_ BK801 hg; replace BK801 := bB_ BK801 hb; have NB802_823 := nB_ BK802 hg; have NB823_802 := nA_ BK802 hg; replace BK802 := bB_ BK802 hb; have NB803_823 := nB_ BK803 hg; have NB823_803 := nA_ BK803 hg; replace BK803 := bB_ BK803 hb; have NB804_823 := nB_ BK804 hg; have NB823_804 := nA_ BK804 hg; replace BK804 := bB_ BK804 hb; clear hb hbox hg; obtain ⟨Ao59, co59, eo59⟩ := Kd.S_slice HO810.out; subst eo59; have hnb60 := NB823_801.out; have hnc60 := NB801_823.out; have hnb61 := NB823_802.out; have hnc61 := NB802_823.out; have hnb62 := NB823_803.out; have hnc62 := NB803_823.out; have hnb63 := NB823_804.out; have hnc63 := NB804_823.out; obtain ⟨hcz64_0, hcz64_1, hcz64_2, hcz64_3, hcz64_4, hcz64_5, hcz64_6, hfz64_0, hfz64_1, hfz64_2, hfz64_3, hfz64_4, hfz64_5, hfz64_6⟩ := zc7_ BK823; obtain ⟨Ao65, co65, eo65⟩ := Kd.R_slice HO818.out; subst eo65; have hnb66 := NB803_804.out; have hnc66 := NB804_803.out; obtain ⟨hcz67_0, hcz67_1, hcz67_2, hcz67_3, hcz67_4, hcz67_5, hcz67_6, hfz67_0, hfz67_1, hfz67_2, hfz67_3, hfz67_4, hfz67_5, hfz67_6⟩ := zc7_ BK803; obtain ⟨hcz68_0, hcz68_1, hcz68_2, hcz68_3, hfz68_0, hfz68_1, hfz68_2, hfz68_3⟩ := zc4_ BK804))
  refine bodyPost_ret (results_list (rs := [.cell 4 70, .cell 5 32, .tmp 6]) rfl (by simp) (.cell gb803 70 #[.slice none 0 0, .int .i64 0, .int .i64 0, .int .i64 0, .int .i64 0, .int .i64 0, .slice none 0 0] (0, 0) _ rfl (by exact fB_ BK803) Try.underlying70 rfl (by kernel_rfl) (.cell gb804 32 #[.int .i64 0, .int .i64 0, .int .i64 0, .int .i64 0] (0, 0) _ rfl (by exact fB_ BK804) Try.underlying32 rfl (by kernel_rfl) (.tmp .nil)))) rfl ?_
  exact ⟨_, _, er_, by first | exact Kd.S_nil _ _ _ _ _ | exact Kd.N_nil _ _ _ _ _ | exact Kd.V_nil _ _ _ _ _ | exact Kd.Q_nil _ _ _ _ _ | exact Kd.R_nil _ _ _ _ _, by first | exact Kd.R_nil _ _ _ _ _ | exact Kd.N_nil _ _ _ _ _ | exact Kd.V_nil _ _ _ _ _ | exact Kd.Q_nil _ _ _ _ _ | exact Kd.S_nil _ _ _ _ _, by repeat (first | (with_reducible first | exact HB.out | apply below_alloc | apply pw_below_drewN | apply below_drew1 | refine below_set ?_ GE801.out | refine below_set ?_ GE802.out | refine below_set ?_ GE803.out | refine below_set ?_ GE804.out | refine below_set ?_ GE823.out) | exact HB.out)⟩
end Go.Proofs.Ytmkcbbbknbahgaa.P
namespace Go.Proofs.Ytmkcbbbknbahgaa.P
open Go.RowKit Go.Proofs.YtmkcbbbknbahgaaW.PrintWords Go.Proofs.YtmkcbbbknbahgaaW.PrintLast Go.Proofs.YtmkcbbbknbahgaaW.PrintMore
set_option linter.unusedVariables false
set_option linter.unusedSimpArgs false

theorem grown_set1 {w W : World} {g : Nat} (h : w.grownBy W (some g)) (j : Nat) (u : Value) : w.grownBy (W.setCell ⟨g, j, none⟩ u) (some g) :=
  ⟨h.os, h.tape, h.output, by have := h.size; simpa [World.setCell] using this, fun k hk hn => (Below.heap_setCell _ _ _ k (fun e => hn (congrArg some e))).trans (h.block k hk hn)⟩

theorem zc4 {w : World} {g : Nat} {t : TypeId} {a0 a1 a2 a3 : Value} (k : Aside0 (w.heap[g]? = some (.cells #[a0, a1, a2, a3] t (0, 0)))) : w.cell? ⟨g, 0, none⟩ = some a0 ∧ w.cell? ⟨g, 1, none⟩ = some a1 ∧ w.cell? ⟨g, 2, none⟩ = some a2 ∧ w.cell? ⟨g, 3, none⟩ = some a3 ∧ w.frozen? ⟨g, 0, none⟩ = false ∧ w.frozen? ⟨g, 1, none⟩ = false ∧ w.frozen? ⟨g, 2, none⟩ = false ∧ w.frozen? ⟨g, 3, none⟩ = false := ⟨(blk_cell k.out 0).trans rfl, (blk_cell k.out 1).trans rfl, (blk_cell k.out 2).trans rfl, (blk_cell k.out 3).trans rfl, blk_frozen k.out 0, blk_frozen k.out 1, blk_frozen k.out 2, blk_frozen k.out 3⟩

theorem puts4 {w : World} {g : Nat} {t : TypeId} {a0 a1 a2 a3 : Value} (h : w.heap[g]? = some (.cells #[a0, a1, a2, a3] t (0, 0))) (u0 u1 u2 u3 : Value) : (World.setCell (World.setCell (World.setCell (World.setCell w ⟨g, 0, none⟩ u0) ⟨g, 1, none⟩ u1) ⟨g, 2, none⟩ u2) ⟨g, 3, none⟩ u3).heap[g]? = some (.cells #[u0, u1, u2, u3] t (0, 0)) := blk_put (cs' := #[u0, u1, u2, u3]) (blk_put (cs' := #[u0, u1, u2, a3]) (blk_put (cs' := #[u0, u1, a2, a3]) (blk_put (cs' := #[u0, a1, a2, a3]) (h) 0 u0 rfl) 1 u1 rfl) 2 u2 rfl) 3 u3 rfl

theorem grows4 (w : World) (g : Nat) (u0 u1 u2 u3 : Value) : w.grownBy (World.setCell (World.setCell (World.setCell (World.setCell w ⟨g, 0, none⟩ u0) ⟨g, 1, none⟩ u1) ⟨g, 2, none⟩ u2) ⟨g, 3, none⟩ u3) (some g) := grown_set1 (grown_set1 (grown_set1 (grown_set1 (World.grownBy.refl _ _) 0 u0) 1 u1) 2 u2) 3 u3

theorem zc7 {w : World} {g : Nat} {t : TypeId} {a0 a1 a2 a3 a4 a5 a6 : Value} (k : Aside0 (w.heap[g]? = some (.cells #[a0, a1, a2, a3, a4, a5, a6] t (0, 0)))) : w.cell? ⟨g, 0, none⟩ = some a0 ∧ w.cell? ⟨g, 1, none⟩ = some a1 ∧ w.cell? ⟨g, 2, none⟩ = some a2 ∧ w.cell? ⟨g, 3, none⟩ = some a3 ∧ w.cell? ⟨g, 4, none⟩ = some a4 ∧ w.cell? ⟨g, 5, none⟩ = some a5 ∧ w.cell? ⟨g, 6, none⟩ = some a6 ∧ w.frozen? ⟨g, 0, none⟩ = false ∧ w.frozen? ⟨g, 1, none⟩ = false ∧ w.frozen? ⟨g, 2, none⟩ = false ∧ w.frozen? ⟨g, 3, none⟩ = false ∧ w.frozen? ⟨g, 4, none⟩ = false ∧ w.frozen? ⟨g, 5, none⟩ = false ∧ w.frozen? ⟨g, 6, none⟩ = false := ⟨(blk_cell k.out 0).trans rfl, (blk_cell k.out 1).trans rfl, (blk_cell k.out 2).trans rfl, (blk_cell k.out 3).trans rfl, (blk_cell k.out 4).trans rfl, (blk_cell k.out 5).trans rfl, (blk_cell k.out 6).trans rfl, blk_frozen k.out 0, blk_frozen k.out 1, blk_frozen k.out 2, blk_frozen k.out 3, blk_frozen k.out 4, blk_frozen k.out 5, blk_frozen k.out 6⟩

theorem puts7 {w : World} {g : Nat} {t : TypeId} {a0 a1 a2 a3 a4 a5 a6 : Value} (h : w.heap[g]? = some (.cells #[a0, a1, a2, a3, a4, a5, a6] t (0, 0))) (u0 u1 u2 u3 u4 u5 u6 : Value) : (World.setCell (World.setCell (World.setCell (World.setCell (World.setCell (World.setCell (World.setCell w ⟨g, 0, none⟩ u0) ⟨g, 1, none⟩ u1) ⟨g, 2, none⟩ u2) ⟨g, 3, none⟩ u3) ⟨g, 4, none⟩ u4) ⟨g, 5, none⟩ u5) ⟨g, 6, none⟩ u6).heap[g]? = some (.cells #[u0, u1, u2, u3, u4, u5, u6] t (0, 0)) := blk_put (cs' := #[u0, u1, u2, u3, u4, u5, u6]) (blk_put (cs' := #[u0, u1, u2, u3, u4, u5, a6]) (blk_put (cs' := #[u0, u1, u2, u3, u4, a5, a6]) (blk_put (cs' := #[u0, u1, u2, u3, a4, a5, a6]) (blk_put (cs' := #[u0, u1, u2, a3, a4, a5, a6]) (blk_put (cs' := #[u0, u1, a2, a3, a4, a5, a6]) (blk_put (cs' := #[u0, a1, a2, a3, a4, a5, a6]) (h) 0 u0 rfl) 1 u1 rfl) 2 u2 rfl) 3 u3 rfl) 4 u4 rfl) 5 u5 rfl) 6 u6 rfl

theorem grows7 (w : World) (g : Nat) (u0 u1 u2 u3 u4 u5 u6 : Value) : w.grownBy (World.setCell (World.setCell (World.setCell (World.setCell (World.setCell (World.setCell (World.setCell w ⟨g, 0, none⟩ u0) ⟨g, 1, none⟩ u1) ⟨g, 2, none⟩ u2) ⟨g, 3, none⟩ u3) ⟨g, 4, none⟩ u4) ⟨g, 5, none⟩ u5) ⟨g, 6, none⟩ u6) (some g) := grown_set1 (grown_set1 (grown_set1 (grown_set1 (grown_set1 (grown_set1 (grown_set1 (World.grownBy.refl _ _) 0 u0) 1 u1) 2 u2) 3 u3) 4 u4) 5 u5) 6 u6

/-- A store of a whole block in a plain region: the world behind it by a letter. -/
theorem stB_ {P : Program} {ops : Array Oper} {rest : List Oper} {o : Oper} {a : Act} {Q : Exit → Act → World → Prop} {W w1 : World} (hgd : o.guard = none) (hN : o.dst = none) {g T : Nat} {cs : Array Value}
    (hrun : (execOp a.eval o).run P W = .ok .skip w1) (hb : w1.heap[g]? = some (.cells cs T (0, 0))) (hg : W.grownBy w1 (some g)) (h : ∀ w', w'.heap[g]? = some (.cells cs T (0, 0)) → W.grownBy w' (some g) → wpList P ops Q rest a w') : wpList P ops Q (o :: rest) a W := by
  refine wpList_plain hgd fun K hK => ?_
  unfold Oper.wp
  rw [hrun]
  show K (a.put o.dst undef) w1
  rw [hN]
  exact hK _ _ (h _ hb hg)

/-- The same, as one step of a drawn region. -/
theorem stD_ {P : Program} {ops : Array Oper} {o : Oper} {a : Act} {Q : Exit → Act → World → Prop} {K : Act → World → Prop} {W w1 : World} (hw : Region.wanted o (yielded ops a.tmps) = true) (hN : o.dst = none) {g T : Nat} {cs : Array Value}
    (hrun : (execOp a.eval o).run P W = .ok .skip w1) (hb : w1.heap[g]? = some (.cells cs T (0, 0))) (hg : W.grownBy w1 (some g)) (h : ∀ w', w'.heap[g]? = some (.cells cs T (0, 0)) → W.grownBy w' (some g) → K a w') : if Region.wanted o (yielded ops a.tmps) = true then Oper.wp P o a W K Q else K (a.put none undef) W :=
  skip_ hw hN hrun (h _ hb hg)

theorem blk_neq_ {w : World} {g g' t t' : Nat} {c c' : Array Value} (h : w.heap[g]? = some (.cells c t (0, 0))) (h' : w.heap[g']? = some (.cells c' t' (0, 0))) (hd : (t == t') = false) (e : g = g') : False := by
  subst e
  rw [h] at h'
  injection h' with h'
  injection h' with _ h'
  subst h'
  simp at hd

theorem clearL_ {P : Program} {ops : Array Oper} {Q : Exit → Act → World → Prop} {rest : List Oper} {oi : Oper} {a : Act} {w : World} {s : Operand} {t e : TypeId} (hg : oi.guard = none) (ho : oi.op = .call { callee := .builtin .clear, args := #[s], argTypes := #[t] })
    (ht : P.underlying t = some (.slice e)) (hv : ∀ w, (zeroValue e).run P w = .ok (.int .u8 0) w) (b o n c : Nat) (hs : a.eval s = .slice (some ⟨b, o, none⟩) n c)
    (hc : ∀ j, j < n → (w.cell? ⟨b, o + j, none⟩).isSome = true) (hf : ∀ j, j < n → w.frozen? ⟨b, o + j, none⟩ = false)
    (hK : wpList P ops Q rest (a.put oi.dst (.tuple #[])) (w.setCells b o ((List.replicate n (0 : Int)).map (Value.int .u8)))) : wpList P ops Q (oi :: rest) a w := by
  refine wpList_plain hg fun K hK' => ?_
  unfold Oper.wp execOp
  have hr := run_clear_bytes w t e oi.type ht hv b o n c hc hf
  simp only [ho, resolve, invoke, builtin, Sem.run_bind, Sem.run_pure, Result.andThen_ok, List.map_toArray, List.map_cons, List.map_nil, hs, hr]
  exact hK' _ _ hK

/-- A window's bytes lie in its array. -/
def rowZ (m : List (List Int)) (a s n : Int) : Prop := 0 ≤ a ∧ a < m.length ∧ 0 ≤ s ∧ 0 ≤ n ∧ s + n ≤ ((m.getD a.toNat []).length : Int) ∧ (m.getD a.toNat []).length ≤ 4611686018427387904 ∧ 0 < (m.getD a.toNat []).length

instance (m : List (List Int)) (a s n : Int) : Decidable (rowZ m a s n) := by unfold rowZ; infer_instance

def impl_GiveZero.f (k : Nat) (l0_0 : List (List Int)) (a0_1 : Int) (a0_2 : Int) (a0_3 : Int) (a0_4 : Int) (a0_5 : Int) (l0_6 : List Int) (a1_0 : Int) (a1_1 : Int) : Option ((List (List Int)) × Int × Int × Int × Int × Int × List Int × Int × Int × Int × Int × Bool) :=
  (impl_Give.f k l0_0 a0_1 a0_2 a0_3 a0_4 a0_5 l0_6 a1_0 a1_1).bind fun t => if t.2.2.2.2.2.2.2.2.2.2.2 = true then (if rowZ t.1 t.2.2.2.2.2.2.2.1 t.2.2.2.2.2.2.2.2.1 t.2.2.2.2.2.2.2.2.2.1 then some (t.1.set t.2.2.2.2.2.2.2.1.toNat (over_ (t.1.getD t.2.2.2.2.2.2.2.1.toNat []) t.2.2.2.2.2.2.2.2.1.toNat (List.replicate t.2.2.2.2.2.2.2.2.2.1.toNat 0)), t.2) else none) else some ([], 0, 0, 0, 0, 0, [], 0, 0, 0, 0, false)

set_option maxHeartbeats 4000000 in
set_option maxRecDepth 100000 in
theorem impl_GiveZero.calls (k : Nat) (A0_0 : Option Addr) (c0_0 : Nat) (l0_0 : List (List Int)) (a0_1 : Int) (a0_2 : Int) (a0_3 : Int) (a0_4 : Int) (a0_5 : Int) (A0_6 : Option Addr) (c0_6 : Nat) (l0_6 : List Int) (a1_0 : Int) (a1_1 : Int) (r1 : List (List Int)) (r2 : Int) (r3 : Int) (r4 : Int) (r5 : Int) (r6 : Int) (r7 : List Int) (r8 : Int) (r9 : Int) (r10 : Int) (r11 : Int) (r12 : Bool) (w : World) (hr0_0 : Kd.C (Kd.slice 5 (Kd.int .u8)) w A0_0 l0_0.length l0_0) (hc0_0 : l0_0.length ≤ c0_0) (hr0_6 : Kd.C (Kd.int .i64) w A0_6 l0_6.length l0_6) (hc0_6 : l0_6.length ≤ c0_6) (h : impl_GiveZero.f k l0_0 a0_1 a0_2 a0_3 a0_4 a0_5 l0_6 a1_0 a1_1 = some (r1, r2, r3, r4, r5, r6, r7, r8, r9, r10, r11, r12)) :
    Calls Try.prog 45 #[.agg #[.slice A0_0 l0_0.length c0_0, .int .i64 a0_1, .int .i64 a0_2, .int .i64 a0_3, .int .i64 a0_4, .int .i64 a0_5, .slice A0_6 l0_6.length c0_6], .agg #[.int .i64 a1_0, .int .i64 a1_1]] w fun e w' => ∃ v0_ v6_ : Value, e = .returned (.tuple #[.agg #[v0_, .int .i64 r2, .int .i64 r3, .int .i64 r4, .int .i64 r5, .int .i64 r6, v6_], .agg #[.int .i64 r8, .int .i64 r9, .int .i64 r10, .int .i64 r11], .bool r12]) ∧ Kd.S (Kd.slice 5 (Kd.int .u8)) 29 w' w.heap.size (fun _ => True) v0_ r1 ∧ Kd.R (Kd.int .i64) 3 w' w.heap.size (fun _ => True) v6_ r7 ∧ Below w.heap.size w w' := by
  have hu1 := Try.underlying70
  have hu2 := Try.underlying32
  have hu3 := Try.underlying31
  have hu4 := Try.underlying74
  obtain ⟨⟨m, b2, b3, b4, b5, b6, l7, x0, x1, x2, x3, ok⟩, ht, h⟩ := Option.bind_eq_some_iff.mp (show (impl_Give.f k l0_0 a0_1 a0_2 a0_3 a0_4 a0_5 l0_6 a1_0 a1_1).bind _ = _ from h)
  have HR0 := Aside0.mk hr0_0
  have HC0 := Aside0.mk hc0_0
  have HR6 := Aside0.mk hr0_6
  have HC6 := Aside0.mk hc0_6
  have HT := Aside0.mk ht
  have HH := Aside0.mk h
  clear hr0_0 hc0_0 hr0_6 hc0_6 ht h
  go_enter Try.func45, Try.ntmps45
  go_wp2_with fail
  have HB := Aside0.mk (Below.alloc (Below.alloc (Below.alloc (Below.alloc (Below.refl w.heap.size w) (Nat.le_refl _) (.cells #[.slice A0_0 l0_0.length c0_0, .int .i64 a0_1, .int .i64 a0_2, .int .i64 a0_3, .int .i64 a0_4, .int .i64 a0_5, .slice A0_6 l0_6.length c0_6] 70)) (by simp) (.cells #[.int .i64 a1_0, .int .i64 a1_1] 74)) (by simp; omega) (.cells #[.slice none 0 0, .int .i64 0, .int .i64 0, .int .i64 0, .int .i64 0, .int .i64 0, .slice none 0 0] 70)) (by simp; omega) (.cells #[.int .i64 0, .int .i64 0, .int .i64 0, .int .i64 0] 32))
  have BK4 := Aside0.mk (show ((((w.alloc (.cells #[.slice A0_0 l0_0.length c0_0, .int .i64 a0_1, .int .i64 a0_2, .int .i64 a0_3, .int .i64 a0_4, .int .i64 a0_5, .slice A0_6 l0_6.length c0_6] 70)).alloc (.cells #[.int .i64 a1_0, .int .i64 a1_1] 74)).alloc (.cells #[.slice none 0 0, .int .i64 0, .int .i64 0, .int .i64 0, .int .i64 0, .int .i64 0, .slice none 0 0] 70)).alloc (.cells #[.int .i64 0, .int .i64 0, .int .i64 0, .int .i64 0] 32)).heap[w.heap.size + 2]? = some (.cells #[.slice none 0 0, .int .i64 0, .int .i64 0, .int .i64 0, .int .i64 0, .int .i64 0, .slice none 0 0] 70 (0, 0)) from by have h_ := blk_below (heap_alloc_new ((w.alloc (.cells #[.slice A0_0 l0_0.length c0_0, .int .i64 a0_1, .int .i64 a0_2, .int .i64 a0_3, .int .i64 a0_4, .int .i64 a0_5, .slice A0_6 l0_6.length c0_6] 70)).alloc (.cells #[.int .i64 a1_0, .int .i64 a1_1] 74)) (.cells #[.slice none 0 0, .int .i64 0, .int .i64 0, .int .i64 0, .int .i64 0, .int .i64 0, .slice none 0 0] 70)) (Below.alloc (Below.refl _ _) (Nat.le_refl _) (.cells #[.int .i64 0, .int .i64 0, .int .i64 0, .int .i64 0] 32)); rwa [show ((w.alloc (.cells #[.slice A0_0 l0_0.length c0_0, .int .i64 a0_1, .int .i64 a0_2, .int .i64 a0_3, .int .i64 a0_4, .int .i64 a0_5, .slice A0_6 l0_6.length c0_6] 70)).alloc (.cells #[.int .i64 a1_0, .int .i64 a1_1] 74)).heap.size = w.heap.size + 2 by simp] at h_)
  have BK5 := Aside0.mk (show ((((w.alloc (.cells #[.slice A0_0 l0_0.length c0_0, .int .i64 a0_1, .int .i64 a0_2, .int .i64 a0_3, .int .i64 a0_4, .int .i64 a0_5, .slice A0_6 l0_6.length c0_6] 70)).alloc (.cells #[.int .i64 a1_0, .int .i64 a1_1] 74)).alloc (.cells #[.slice none 0 0, .int .i64 0, .int .i64 0, .int .i64 0, .int .i64 0, .int .i64 0, .slice none 0 0] 70)).alloc (.cells #[.int .i64 0, .int .i64 0, .int .i64 0, .int .i64 0] 32)).heap[w.heap.size + 3]? = some (.cells #[.int .i64 0, .int .i64 0, .int .i64 0, .int .i64 0] 32 (0, 0)) from by have h_ := heap_alloc_new (((w.alloc (.cells #[.slice A0_0 l0_0.length c0_0, .int .i64 a0_1, .int .i64 a0_2, .int .i64 a0_3, .int .i64 a0_4, .int .i64 a0_5, .slice A0_6 l0_6.length c0_6] 70)).alloc (.cells #[.int .i64 a1_0, .int .i64 a1_1] 74)).alloc (.cells #[.slice none 0 0, .int .i64 0, .int .i64 0, .int .i64 0, .int .i64 0, .int .i64 0, .slice none 0 0] 70)) (.cells #[.int .i64 0, .int .i64 0, .int .i64 0, .int .i64 0] 32); rwa [show (((w.alloc (.cells #[.slice A0_0 l0_0.length c0_0, .int .i64 a0_1, .int .i64 a0_2, .int .i64 a0_3, .int .i64 a0_4, .int .i64 a0_5, .slice A0_6 l0_6.length c0_6] 70)).alloc (.cells #[.int .i64 a1_0, .int .i64 a1_1] 74)).alloc (.cells #[.slice none 0 0, .int .i64 0, .int .i64 0, .int .i64 0, .int .i64 0, .int .i64 0, .slice none 0 0] 70)).heap.size = w.heap.size + 3 by simp] at h_)
  have Z0 := Aside0.mk (show w.heap.size + 4 ≤ ((((w.alloc (.cells #[.slice A0_0 l0_0.length c0_0, .int .i64 a0_1, .int .i64 a0_2, .int .i64 a0_3, .int .i64 a0_4, .int .i64 a0_5, .slice A0_6 l0_6.length c0_6] 70)).alloc (.cells #[.int .i64 a1_0, .int .i64 a1_1] 74)).alloc (.cells #[.slice none 0 0, .int .i64 0, .int .i64 0, .int .i64 0, .int .i64 0, .int .i64 0, .slice none 0 0] 70)).alloc (.cells #[.int .i64 0, .int .i64 0, .int .i64 0, .int .i64 0] 32)).heap.size by simp)
  refine (impl_Give.calls k A0_0 c0_0 l0_0 a0_1 a0_2 a0_3 a0_4 a0_5 A0_6 c0_6 l0_6 a1_0 a1_1 m b2 b3 b4 b5 b6 l7 x0 x1 x2 x3 ok _ (Kd.C_below HR0.out HB.out) HC0.out (Kd.C_below HR6.out HB.out) HC6.out HT.out).mono ?_
  rintro e w1 ⟨v0, v6, rfl, hS, hR, hb⟩
  obtain ⟨A, c, rfl⟩ := Kd.S_slice hS
  obtain ⟨A7, c7, rfl⟩ := Kd.R_slice hR
  have HS := Aside0.mk (Kd.S_lower hS (below_size HB.out))
  have HR := Aside0.mk (Kd.R_lower hR (below_size HB.out))
  replace BK4 := Aside0.mk (blk_below BK4.out hb)
  replace BK5 := Aside0.mk (blk_below BK5.out hb)
  replace HB := Aside0.mk (below_step HB.out hb)
  have Z1 := Aside0.mk (Nat.le_trans Z0.out (below_size hb))
  clear hS hR hb Z0 HT
  cases ok with
  | false =>
    have h1 := HH.out
    rw [if_neg (by decide)] at h1
    simp only [Option.some.injEq, Prod.mk.injEq] at h1
    obtain ⟨rfl, rfl, rfl, rfl, rfl, rfl, rfl, rfl, rfl, rfl, rfl, rfl⟩ := h1
    go_wp2_with (first | ((with_reducible refine gate_dst (N := 7) rfl ?_); refine box_event ?hg (N := 7) ?hd (cs := #[.slice none 0 0, .int .i64 0, .int .i64 0, .int .i64 0, .int .i64 0, .int .i64 0, .slice none 0 0]) (t := 70) ?hr ?_; (case hd => rfl); (case hg => rfl); (case hr => first | (go_simp; done) | (go_simp; rfl)); intro g7 hg w2 hbox hb; have BK7 := Aside0.mk hbox; replace BK4 := Aside0.mk (blk_below BK4.out hb); replace BK5 := Aside0.mk (blk_below BK5.out hb); replace HS := Aside0.mk (Kd.S_below HS.out hb); replace HR := Aside0.mk (Kd.R_below HR.out hb); replace HB := Aside0.mk (below_step HB.out hb); have N7 := Aside0.mk (show w.heap.size + 4 ≤ g7 by rw [hg]; exact Z1.out); clear hg hbox hb) | ((with_reducible refine gate_dst (N := 8) rfl ?_); refine box_event ?hg (N := 8) ?hd (cs := #[.int .i64 0, .int .i64 0, .int .i64 0, .int .i64 0]) (t := 32) ?hr ?_; (case hd => rfl); (case hg => rfl); (case hr => first | (go_simp; done) | (go_simp; rfl)); intro g8 hg w3 hbox hb; have BK8 := Aside0.mk hbox; have hl7_ := blk_lt BK7.out; replace BK4 := Aside0.mk (blk_below BK4.out hb); replace BK5 := Aside0.mk (blk_below BK5.out hb); replace BK7 := Aside0.mk (blk_below BK7.out hb); replace HS := Aside0.mk (Kd.S_below HS.out hb); replace HR := Aside0.mk (Kd.R_below HR.out hb); replace HB := Aside0.mk (below_step HB.out hb); have N8 := Aside0.mk (show g7 < g8 by rw [hg]; exact hl7_); clear hl7_; clear hg hbox hb) | ((with_reducible refine gate_store (p := 7) rfl ?_); obtain ⟨qc0, qc1, qc2, qc3, qc4, qc5, qc6, qf0, qf1, qf2, qf3, qf4, qf5, qf6⟩ := zc7 BK7; have zl_ := blk_lt BK7.out; refine stB_ rfl rfl (w1 := (World.setCell (World.setCell (World.setCell (World.setCell (World.setCell (World.setCell (World.setCell w3 ⟨g7, 0, none⟩ (.slice A m.length c)) ⟨g7, 1, none⟩ (.int .i64 b2)) ⟨g7, 2, none⟩ (.int .i64 b3)) ⟨g7, 3, none⟩ (.int .i64 b4)) ⟨g7, 4, none⟩ (.int .i64 b5)) ⟨g7, 5, none⟩ (.int .i64 b6)) ⟨g7, 6, none⟩ (.slice A7 l7.length c7))) ?hr (puts7 BK7.out (.slice A m.length c) (.int .i64 b2) (.int .i64 b3) (.int .i64 b4) (.int .i64 b5) (.int .i64 b6) (.slice A7 l7.length c7)) (grows7 w3 g7 (.slice A m.length c) (.int .i64 b2) (.int .i64 b3) (.int .i64 b4) (.int .i64 b5) (.int .i64 b6) (.slice A7 l7.length c7)) ?_; (case hr => first | (go_simp; done) | (go_simp; rfl)); intro w4 hb_ hg_; clear qc0 qc1 qc2 qc3 qc4 qc5 qc6 qf0 qf1 qf2 qf3 qf4 qf5 qf6 zl_; replace BK4 := Aside0.mk (blk_grown BK4.out hg_ (fun e_ => absurd (Option.some.inj e_) (by have := N7.out; omega))); replace BK5 := Aside0.mk (blk_grown BK5.out hg_ (fun e_ => absurd (Option.some.inj e_) (by have := N7.out; omega))); replace BK8 := Aside0.mk (blk_grown BK8.out hg_ (fun e_ => absurd (Option.some.inj e_) (by have := N7.out; have := N8.out; omega))); replace HS := Aside0.mk (Kd.S_mono (Kd.S_grown (Kd.S_types HS.out BK7.out (by decide)) hg_ (fun k_ hk_ e_ => hk_.2 (Option.some.inj e_))) (fun _ h_ => h_.1)); replace HR := Aside0.mk (Kd.R_mono (Kd.R_grown (Kd.R_types HR.out BK7.out (by decide)) hg_ (fun k_ hk_ e_ => hk_.2 (Option.some.inj e_))) (fun _ h_ => h_.1)); replace HB := Aside0.mk (below_of_grown HB.out hg_ (by have := N7.out; omega) (below_size HB.out)); replace BK7 := Aside0.mk hb_; clear hb_ hg_) | ((with_reducible refine gate_store (p := 8) rfl ?_); obtain ⟨qc0, qc1, qc2, qc3, qf0, qf1, qf2, qf3⟩ := zc4 BK8; have zl_ := blk_lt BK8.out; refine stB_ rfl rfl (w1 := (World.setCell (World.setCell (World.setCell (World.setCell w4 ⟨g8, 0, none⟩ (.int .i64 x0)) ⟨g8, 1, none⟩ (.int .i64 x1)) ⟨g8, 2, none⟩ (.int .i64 x2)) ⟨g8, 3, none⟩ (.int .i64 x3))) ?hr (puts4 BK8.out (.int .i64 x0) (.int .i64 x1) (.int .i64 x2) (.int .i64 x3)) (grows4 w4 g8 (.int .i64 x0) (.int .i64 x1) (.int .i64 x2) (.int .i64 x3)) ?_; (case hr => first | (go_simp; done) | (go_simp; rfl)); intro w5 hb_ hg_; clear qc0 qc1 qc2 qc3 qf0 qf1 qf2 qf3 zl_; replace BK4 := Aside0.mk (blk_grown BK4.out hg_ (fun e_ => absurd (Option.some.inj e_) (by have := N7.out; have := N8.out; omega))); replace BK5 := Aside0.mk (blk_grown BK5.out hg_ (fun e_ => absurd (Option.some.inj e_) (by have := N7.out; have := N8.out; omega))); replace BK7 := Aside0.mk (blk_grown BK7.out hg_ (fun e_ => absurd (Option.some.inj e_) (by have := N7.out; have := N8.out; omega))); replace HS := Aside0.mk (Kd.S_mono (Kd.S_grown (Kd.S_types HS.out BK8.out (by decide)) hg_ (fun k_ hk_ e_ => hk_.2 (Option.some.inj e_))) (fun _ h_ => h_.1)); replace HR := Aside0.mk (Kd.R_mono (Kd.R_grown (Kd.R_types HR.out BK8.out (by decide)) hg_ (fun k_ hk_ e_ => hk_.2 (Option.some.inj e_))) (fun _ h_ => h_.1)); replace HB := Aside0.mk (below_of_grown HB.out hg_ (by have := N7.out; have := N8.out; omega) (below_size HB.out)); replace BK8 := Aside0.mk hb_; clear hb_ hg_) | ((with_reducible refine gate_store (p := 4) rfl ?_); obtain ⟨qc0, qc1, qc2, qc3, qc4, qc5, qc6, qf0, qf1, qf2, qf3, qf4, qf5, qf6⟩ := zc7 BK4; have zl_ := blk_lt BK4.out; refine stB_ rfl rfl (w1 := (World.setCell (World.setCell (World.setCell (World.setCell (World.setCell (World.setCell (World.setCell w5 ⟨(w.heap.size + 2), 0, none⟩ (.slice none 0 0)) ⟨(w.heap.size + 2), 1, none⟩ (.int .i64 0)) ⟨(w.heap.size + 2), 2, none⟩ (.int .i64 0)) ⟨(w.heap.size + 2), 3, none⟩ (.int .i64 0)) ⟨(w.heap.size + 2), 4, none⟩ (.int .i64 0)) ⟨(w.heap.size + 2), 5, none⟩ (.int .i64 0)) ⟨(w.heap.size + 2), 6, none⟩ (.slice none 0 0))) ?hr (puts7 BK4.out (.slice none 0 0) (.int .i64 0) (.int .i64 0) (.int .i64 0) (.int .i64 0) (.int .i64 0) (.slice none 0 0)) (grows7 w5 (w.heap.size + 2) (.slice none 0 0) (.int .i64 0) (.int .i64 0) (.int .i64 0) (.int .i64 0) (.int .i64 0) (.slice none 0 0)) ?_; (case hr => first | (go_simp; done) | (go_simp; rfl)); intro w6 hb_ hg_; clear qc0 qc1 qc2 qc3 qc4 qc5 qc6 qf0 qf1 qf2 qf3 qf4 qf5 qf6 zl_; replace BK5 := Aside0.mk (blk_grown BK5.out hg_ (fun e_ => absurd (Option.some.inj e_) (by omega))); replace BK7 := Aside0.mk (blk_grown BK7.out hg_ (fun e_ => absurd (Option.some.inj e_) (by have := N7.out; omega))); replace BK8 := Aside0.mk (blk_grown BK8.out hg_ (fun e_ => absurd (Option.some.inj e_) (by have := N7.out; have := N8.out; omega))); replace HS := Aside0.mk (Kd.S_mono (Kd.S_grown (Kd.S_types HS.out BK4.out (by decide)) hg_ (fun k_ hk_ e_ => hk_.2 (Option.some.inj e_))) (fun _ h_ => h_.1)); replace HR := Aside0.mk (Kd.R_mono (Kd.R_grown (Kd.R_types HR.out BK4.out (by decide)) hg_ (fun k_ hk_ e_ => hk_.2 (Option.some.inj e_))) (fun _ h_ => h_.1)); replace HB := Aside0.mk (below_of_grown HB.out hg_ (by omega) (below_size HB.out)); replace BK4 := Aside0.mk hb_; clear hb_ hg_) | ((with_reducible refine gate_store (p := 5) rfl ?_); obtain ⟨qc0, qc1, qc2, qc3, qf0, qf1, qf2, qf3⟩ := zc4 BK5; have zl_ := blk_lt BK5.out; refine stB_ rfl rfl (w1 := (World.setCell (World.setCell (World.setCell (World.setCell w6 ⟨(w.heap.size + 3), 0, none⟩ (.int .i64 0)) ⟨(w.heap.size + 3), 1, none⟩ (.int .i64 0)) ⟨(w.heap.size + 3), 2, none⟩ (.int .i64 0)) ⟨(w.heap.size + 3), 3, none⟩ (.int .i64 0))) ?hr (puts4 BK5.out (.int .i64 0) (.int .i64 0) (.int .i64 0) (.int .i64 0)) (grows4 w6 (w.heap.size + 3) (.int .i64 0) (.int .i64 0) (.int .i64 0) (.int .i64 0)) ?_; (case hr => first | (go_simp; done) | (go_simp; rfl)); intro w7 hb_ hg_; clear qc0 qc1 qc2 qc3 qf0 qf1 qf2 qf3 zl_; replace BK4 := Aside0.mk (blk_grown BK4.out hg_ (fun e_ => absurd (Option.some.inj e_) (by omega))); replace BK7 := Aside0.mk (blk_grown BK7.out hg_ (fun e_ => absurd (Option.some.inj e_) (by have := N7.out; omega))); replace BK8 := Aside0.mk (blk_grown BK8.out hg_ (fun e_ => absurd (Option.some.inj e_) (by have := N7.out; have := N8.out; omega))); replace HS := Aside0.mk (Kd.S_mono (Kd.S_grown (Kd.S_types HS.out BK5.out (by decide)) hg_ (fun k_ hk_ e_ => hk_.2 (Option.some.inj e_))) (fun _ h_ => h_.1)); replace HR := Aside0.mk (Kd.R_mono (Kd.R_grown (Kd.R_types HR.out BK5.out (by decide)) hg_ (fun k_ hk_ e_ => hk_.2 (Option.some.inj e_))) (fun _ h_ => h_.1)); replace HB := Aside0.mk (below_of_grown HB.out hg_ (by omega) (below_size HB.out)); replace BK5 := Aside0.mk hb_; clear hb_ hg_))
    refine bodyPost_ret (results_list (rs := [.cell 4 70, .cell 5 32, .tmp 6]) rfl (by simp) (.cell (w.heap.size + 2) 70 #[.slice none 0 0, .int .i64 0, .int .i64 0, .int .i64 0, .int .i64 0, .int .i64 0, .slice none 0 0] (0, 0) _ rfl BK4.out hu1 rfl (by kernel_rfl) (.cell (w.heap.size + 3) 32 #[.int .i64 0, .int .i64 0, .int .i64 0, .int .i64 0] (0, 0) _ rfl BK5.out hu2 rfl (by kernel_rfl) (.tmp .nil)))) rfl ?_
    exact ⟨_, _, rfl, Kd.S_nil _ _ _ _ _, Kd.R_nil _ _ _ _ _, HB.out⟩
  | true =>
    have h1 := HH.out
    rw [if_pos rfl] at h1
    by_cases hok : rowZ m x0 x1 x2
    · rw [if_pos hok] at h1
      simp only [Option.some.injEq, Prod.mk.injEq] at h1
      obtain ⟨h1e, rfl, rfl, rfl, rfl, rfl, rfl, rfl, rfl, rfl, rfl, rfl⟩ := h1
      clear HH
      obtain ⟨k1, k2, k3, k4, k5, k6, k7⟩ := hok
      obtain ⟨ix, rfl⟩ : ∃ ix : Nat, x0 = (ix : Int) := ⟨x0.toNat, by omega⟩
      have hix : ix < m.length := by omega
      have hrow : m.getD ((ix : Int)).toNat [] = m[ix] := getD_at hix
      rw [hrow] at k5 k6 k7
      rw [hrow, Int.toNat_natCast] at h1e
      subst h1e
      obtain ⟨gm, cm, em, _⟩ := Kd.S_form HS.out (by omega)
      obtain ⟨rfl, -, rfl⟩ := Value.slice.inj em
      go_wp2_with (first | ((with_reducible refine gate_dst (N := 7) rfl ?_); refine box_event ?hg (N := 7) ?hd (cs := #[.slice none 0 0, .int .i64 0, .int .i64 0, .int .i64 0, .int .i64 0, .int .i64 0, .slice none 0 0]) (t := 70) ?hr ?_; (case hd => rfl); (case hg => rfl); (case hr => first | (go_simp; done) | (go_simp; rfl)); intro g7 hg w2 hbox hb; have BK7 := Aside0.mk hbox; replace BK4 := Aside0.mk (blk_below BK4.out hb); replace BK5 := Aside0.mk (blk_below BK5.out hb); replace HS := Aside0.mk (Kd.S_below HS.out hb); replace HR := Aside0.mk (Kd.R_below HR.out hb); replace HB := Aside0.mk (below_step HB.out hb); have N7 := Aside0.mk (show w.heap.size + 4 ≤ g7 by rw [hg]; exact Z1.out); clear hg hbox hb) | ((with_reducible refine gate_dst (N := 8) rfl ?_); refine box_event ?hg (N := 8) ?hd (cs := #[.int .i64 0, .int .i64 0, .int .i64 0, .int .i64 0]) (t := 32) ?hr ?_; (case hd => rfl); (case hg => rfl); (case hr => first | (go_simp; done) | (go_simp; rfl)); intro g8 hg w3 hbox hb; have BK8 := Aside0.mk hbox; have hl7_ := blk_lt BK7.out; replace BK4 := Aside0.mk (blk_below BK4.out hb); replace BK5 := Aside0.mk (blk_below BK5.out hb); replace BK7 := Aside0.mk (blk_below BK7.out hb); replace HS := Aside0.mk (Kd.S_below HS.out hb); replace HR := Aside0.mk (Kd.R_below HR.out hb); replace HB := Aside0.mk (below_step HB.out hb); have N8 := Aside0.mk (show g7 < g8 by rw [hg]; exact hl7_); clear hl7_; clear hg hbox hb) | ((with_reducible refine gate_store (p := 7) rfl ?_); obtain ⟨qc0, qc1, qc2, qc3, qc4, qc5, qc6, qf0, qf1, qf2, qf3, qf4, qf5, qf6⟩ := zc7 BK7; have zl_ := blk_lt BK7.out; refine stB_ rfl rfl (w1 := (World.setCell (World.setCell (World.setCell (World.setCell (World.setCell (World.setCell (World.setCell w3 ⟨g7, 0, none⟩ (.slice (some ⟨gm, 0, none⟩) m.length c)) ⟨g7, 1, none⟩ (.int .i64 b2)) ⟨g7, 2, none⟩ (.int .i64 b3)) ⟨g7, 3, none⟩ (.int .i64 b4)) ⟨g7, 4, none⟩ (.int .i64 b5)) ⟨g7, 5, none⟩ (.int .i64 b6)) ⟨g7, 6, none⟩ (.slice A7 l7.length c7))) ?hr (puts7 BK7.out (.slice (some ⟨gm, 0, none⟩) m.length c) (.int .i64 b2) (.int .i64 b3) (.int .i64 b4) (.int .i64 b5) (.int .i64 b6) (.slice A7 l7.length c7)) (grows7 w3 g7 (.slice (some ⟨gm, 0, none⟩) m.length c) (.int .i64 b2) (.int .i64 b3) (.int .i64 b4) (.int .i64 b5) (.int .i64 b6) (.slice A7 l7.length c7)) ?_; (case hr => first | (go_simp; done) | (go_simp; rfl)); intro w4 hb_ hg_; clear qc0 qc1 qc2 qc3 qc4 qc5 qc6 qf0 qf1 qf2 qf3 qf4 qf5 qf6 zl_; replace BK4 := Aside0.mk (blk_grown BK4.out hg_ (fun e_ => absurd (Option.some.inj e_) (by have := N7.out; omega))); replace BK5 := Aside0.mk (blk_grown BK5.out hg_ (fun e_ => absurd (Option.some.inj e_) (by have := N7.out; omega))); replace BK8 := Aside0.mk (blk_grown BK8.out hg_ (fun e_ => absurd (Option.some.inj e_) (by have := N7.out; have := N8.out; omega))); replace HS := Aside0.mk (Kd.S_mono (Kd.S_grown (Kd.S_types HS.out BK7.out (by decide)) hg_ (fun k_ hk_ e_ => hk_.2 (Option.some.inj e_))) (fun _ h_ => h_.1)); replace HR := Aside0.mk (Kd.R_mono (Kd.R_grown (Kd.R_types HR.out BK7.out (by decide)) hg_ (fun k_ hk_ e_ => hk_.2 (Option.some.inj e_))) (fun _ h_ => h_.1)); replace HB := Aside0.mk (below_of_grown HB.out hg_ (by have := N7.out; omega) (below_size HB.out)); replace BK7 := Aside0.mk hb_; clear hb_ hg_) | ((with_reducible refine gate_store (p := 8) rfl ?_); obtain ⟨qc0, qc1, qc2, qc3, qf0, qf1, qf2, qf3⟩ := zc4 BK8; have zl_ := blk_lt BK8.out; refine stB_ rfl rfl (w1 := (World.setCell (World.setCell (World.setCell (World.setCell w4 ⟨g8, 0, none⟩ (.int .i64 (ix : Int))) ⟨g8, 1, none⟩ (.int .i64 x1)) ⟨g8, 2, none⟩ (.int .i64 x2)) ⟨g8, 3, none⟩ (.int .i64 x3))) ?hr (puts4 BK8.out (.int .i64 (ix : Int)) (.int .i64 x1) (.int .i64 x2) (.int .i64 x3)) (grows4 w4 g8 (.int .i64 (ix : Int)) (.int .i64 x1) (.int .i64 x2) (.int .i64 x3)) ?_; (case hr => first | (go_simp; done) | (go_simp; rfl)); intro w5 hb_ hg_; clear qc0 qc1 qc2 qc3 qf0 qf1 qf2 qf3 zl_; replace BK4 := Aside0.mk (blk_grown BK4.out hg_ (fun e_ => absurd (Option.some.inj e_) (by have := N7.out; have := N8.out; omega))); replace BK5 := Aside0.mk (blk_grown BK5.out hg_ (fun e_ => absurd (Option.some.inj e_) (by have := N7.out; have := N8.out; omega))); replace BK7 := Aside0.mk (blk_grown BK7.out hg_ (fun e_ => absurd (Option.some.inj e_) (by have := N7.out; have := N8.out; omega))); replace HS := Aside0.mk (Kd.S_mono (Kd.S_grown (Kd.S_types HS.out BK8.out (by decide)) hg_ (fun k_ hk_ e_ => hk_.2 (Option.some.inj e_))) (fun _ h_ => h_.1)); replace HR := Aside0.mk (Kd.R_mono (Kd.R_grown (Kd.R_types HR.out BK8.out (by decide)) hg_ (fun k_ hk_ e_ => hk_.2 (Option.some.inj e_))) (fun _ h_ => h_.1)); replace HB := Aside0.mk (below_of_grown HB.out hg_ (by have := N7.out; have := N8.out; omega) (below_size HB.out)); replace BK8 := Aside0.mk hb_; clear hb_ hg_; obtain ⟨pc0, pc1, pc2, pc3, pc4, pc5, pc6, pf0, pf1, pf2, pf3, pf4, pf5, pf6⟩ := zc7 BK7; obtain ⟨rc0, rc1, rc2, rc3, rf0, rf1, rf2, rf3⟩ := zc4 BK8; have zl7_ := blk_lt BK7.out; have zl8_ := blk_lt BK8.out))
      clear pc0 pf0 pc1 pf1 pc2 pf2 pc3 pf3 pc4 pf4 pc5 pf5 pc6 pf6 rc0 rf0 rc1 rf1 rc2 rf2 rc3 rf3 zl7_ zl8_
      obtain ⟨g, cc, hcell, hcc, _⟩ := S_row HS.out ix hix k7
      refine (impl_Memory_seen.at_ ⟨gm, 0, none⟩ m.length c ix x1 x2 x3 g m[ix].length cc w5 (by rw [Int.toNat_natCast]; exact hcell) (by omega) (by omega) k3 (by omega) (by omega) (by omega)).mono ?_
      rintro e w6 ⟨rfl, hb⟩
      replace hcell := (World.cell?_of_block (hb.block _ (cell_lt hcell))).trans hcell
      replace BK4 := Aside0.mk (blk_below BK4.out hb)
      replace BK5 := Aside0.mk (blk_below BK5.out hb)
      replace BK7 := Aside0.mk (blk_below BK7.out hb)
      replace BK8 := Aside0.mk (blk_below BK8.out hb)
      replace HS := Aside0.mk (Kd.S_below HS.out hb)
      replace HR := Aside0.mk (Kd.R_below HR.out hb)
      replace HB := Aside0.mk (below_step HB.out hb)
      clear hb
      obtain ⟨g', c', hcell', hcc', _, hb', hl', ⟨cells', hblk⟩, hcells, hwr⟩ := S_row HS.out ix hix k7
      obtain ⟨eg, -, -⟩ := Value.slice.inj (Option.some.inj (hcell'.symm.trans hcell))
      have eg' : g' = g := congrArg Addr.block (Option.some.inj eg)
      subst eg'
      have hoff : 0 < x2.toNat → (if cc = x1.toNat then 0 else x1.toNat) = x1.toNat := fun h_ => by rw [if_neg (by omega)]
      generalize (if cc = x1.toNat then 0 else x1.toNat) = off at hoff ⊢
      have HC1 := Aside0.mk (show ∀ j, j < x2.toNat → (w6.cell? ⟨g', off + j, none⟩).isSome = true from fun j hj => by have hof := hoff (by omega); rw [(hcells (off + j) (by omega)).1]; rfl)
      have HC2 := Aside0.mk (show ∀ j, j < x2.toNat → w6.frozen? ⟨g', off + j, none⟩ = false from fun j hj => by have hof := hoff (by omega); exact (hcells (off + j) (by omega)).2)
      obtain ⟨hS2, hg2⟩ : Kd.S (Kd.slice 5 (Kd.int .u8)) 29 (w6.setCells g' off ((List.replicate x2.toNat (0 : Int)).map (Value.int .u8))) w.heap.size (fun _ => True) (.slice (some ⟨gm, 0, none⟩) m.length c) (m.set ix (over_ m[ix] x1.toNat (List.replicate x2.toNat 0))) ∧ w6.grownBy (w6.setCells g' off ((List.replicate x2.toNat (0 : Int)).map (Value.int .u8))) (some g') := by
        by_cases hlu : 0 < x2.toNat
        · rw [← hoff hlu]
          exact hwr off _ (by rw [List.length_replicate, hoff hlu]; omega)
        · rw [show x2.toNat = 0 by omega, List.replicate_zero, over_nil, List.set_getElem_self]
          exact ⟨HS.out, World.grownBy.refl _ _⟩
      replace hblk := Aside0.mk hblk
      replace hb' := Aside0.mk hb'
      clear hcells hwr hcell hcell' hl' hoff hcc hcc'
      go_wp2_with (first | ((with_reducible refine gate_builtin (b := .clear) (xs := #[.tmp 24]) rfl ?_); refine clearL_ (s := .tmp 24) (t := 29) (e := 5) rfl rfl Try.underlying29 (fun w' => by go_simp; first | done | rfl) g' off x2.toNat (cc - x1.toNat) (by rfl) HC1.out HC2.out ?_; generalize w6.setCells g' off ((List.replicate x2.toNat (0 : Int)).map (Value.int .u8)) = w7 at hS2 hg2 ⊢; replace BK4 := Aside0.mk (blk_grown BK4.out hg2 (fun e_ => blk_neq_ BK4.out hblk.out (by decide) (Option.some.inj e_))); replace BK5 := Aside0.mk (blk_grown BK5.out hg2 (fun e_ => blk_neq_ BK5.out hblk.out (by decide) (Option.some.inj e_))); replace BK7 := Aside0.mk (blk_grown BK7.out hg2 (fun e_ => blk_neq_ BK7.out hblk.out (by decide) (Option.some.inj e_))); replace BK8 := Aside0.mk (blk_grown BK8.out hg2 (fun e_ => blk_neq_ BK8.out hblk.out (by decide) (Option.some.inj e_))); replace HR := Aside0.mk (Kd.R_mono (ok' := fun _ => True) (Kd.R_over' (v := .slice (some ⟨g', 0, none⟩) 0 0) HR.out (fun k hk => by cases hk; exact ⟨_, hblk.out⟩) (by decide) hg2) (fun _ _ => trivial)); replace HS := Aside0.mk hS2; replace HB := Aside0.mk (below_of_grown HB.out hg2 hb'.out (below_size HB.out)); clear hS2 hg2 HC1 HC2))
      refine start_ (n := 5) (S := fun w' => w'.cell? ⟨g7, 0, none⟩ = some (.slice (some ⟨gm, 0, none⟩) m.length c) ∧ w'.cell? ⟨g7, 1, none⟩ = some (.int .i64 b2) ∧ w'.cell? ⟨g7, 2, none⟩ = some (.int .i64 b3) ∧ w'.cell? ⟨g7, 3, none⟩ = some (.int .i64 b4) ∧ w'.cell? ⟨g7, 4, none⟩ = some (.int .i64 b5) ∧ w'.cell? ⟨g7, 5, none⟩ = some (.int .i64 b6) ∧ w'.cell? ⟨g7, 6, none⟩ = some (.slice A7 l7.length c7) ∧ w'.cell? ⟨g8, 0, none⟩ = some (.int .i64 (ix : Int)) ∧ w'.cell? ⟨g8, 1, none⟩ = some (.int .i64 x1) ∧ w'.cell? ⟨g8, 2, none⟩ = some (.int .i64 x2) ∧ w'.cell? ⟨g8, 3, none⟩ = some (.int .i64 x3)) (ds := []) #[false, false, false, false, false] (by kernel_rfl) rfl rfl ⟨(blk_cell BK7.out 0).trans rfl, (blk_cell BK7.out 1).trans rfl, (blk_cell BK7.out 2).trans rfl, (blk_cell BK7.out 3).trans rfl, (blk_cell BK7.out 4).trans rfl, (blk_cell BK7.out 5).trans rfl, (blk_cell BK7.out 6).trans rfl, (blk_cell BK8.out 0).trans rfl, (blk_cell BK8.out 1).trans rfl, (blk_cell BK8.out 2).trans rfl, (blk_cell BK8.out 3).trans rfl⟩ (fun hHeld => ?_)
      replace BK4 := Aside0.mk (blk_drew BK4.out)
      replace BK5 := Aside0.mk (blk_drew BK5.out)
      replace BK7 := Aside0.mk (blk_drew BK7.out)
      replace BK8 := Aside0.mk (blk_drew BK8.out)
      replace HS := Aside0.mk (Kd.S_drew HS.out)
      replace HR := Aside0.mk (Kd.R_drew HR.out)
      replace HB := Aside0.mk (below_drew1 HB.out)
      generalize w7.drew = w8 at BK4 BK5 BK7 BK8 HS HR HB hHeld ⊢
      refine take_ (i := 0) (N := some 25) (v := ?_) (a' := ?_) #[true, false, false, false, false] rfl rfl (by kernel_rfl) (fun _ _ _ h => h) (Or.inl ⟨by rfl, ?_⟩) hHeld ?_ ?_
      rotate_left
      · rintro w' ⟨s0, s1, s2, s3, s4, s5, s6, s7, s8, s9, s10⟩
        go_simp
        with_reducible rfl
      rotate_left
      · simp only [Act.put, List.setIfInBounds_toArray, List.set_cons_zero, List.set_cons_succ, i64_w, i32_w]
        rfl
      refine take_ (i := 1) (N := some 26) (v := ?_) (a' := ?_) #[true, true, false, false, false] rfl rfl (by kernel_rfl) (fun _ _ _ h => h) (Or.inl ⟨by rfl, ?_⟩) hHeld ?_ ?_
      rotate_left
      · rintro w' ⟨s0, s1, s2, s3, s4, s5, s6, s7, s8, s9, s10⟩
        go_simp
        with_reducible rfl
      rotate_left
      · simp only [Act.put, List.setIfInBounds_toArray, List.set_cons_zero, List.set_cons_succ, i64_w, i32_w]
        rfl
      refine one_ (i := 2) (N := none) #[true, true, true, false, false] rfl rfl (by kernel_rfl) (by decide) (fun K hK => ?_)
      obtain ⟨qc0, qc1, qc2, qc3, qc4, qc5, qc6, qf0, qf1, qf2, qf3, qf4, qf5, qf6⟩ := zc7 BK4
      have zl_ := blk_lt BK4.out
      refine stD_ (by rfl) rfl (w1 := (World.setCell (World.setCell (World.setCell (World.setCell (World.setCell (World.setCell (World.setCell w8 ⟨(w.heap.size + 2), 0, none⟩ (.slice (some ⟨gm, 0, none⟩) m.length c)) ⟨(w.heap.size + 2), 1, none⟩ (.int .i64 b2)) ⟨(w.heap.size + 2), 2, none⟩ (.int .i64 b3)) ⟨(w.heap.size + 2), 3, none⟩ (.int .i64 b4)) ⟨(w.heap.size + 2), 4, none⟩ (.int .i64 b5)) ⟨(w.heap.size + 2), 5, none⟩ (.int .i64 b6)) ⟨(w.heap.size + 2), 6, none⟩ (.slice A7 l7.length c7))) ?hr (puts7 BK4.out (.slice (some ⟨gm, 0, none⟩) m.length c) (.int .i64 b2) (.int .i64 b3) (.int .i64 b4) (.int .i64 b5) (.int .i64 b6) (.slice A7 l7.length c7)) (grows7 w8 (w.heap.size + 2) (.slice (some ⟨gm, 0, none⟩) m.length c) (.int .i64 b2) (.int .i64 b3) (.int .i64 b4) (.int .i64 b5) (.int .i64 b6) (.slice A7 l7.length c7)) ?_
      case hr => first | (go_simp; done) | (go_simp; rfl)
      intro w9 hb_ hg_
      clear qc0 qc1 qc2 qc3 qc4 qc5 qc6 qf0 qf1 qf2 qf3 qf4 qf5 qf6 zl_ hHeld
      replace BK5 := Aside0.mk (blk_grown BK5.out hg_ (fun e_ => absurd (Option.some.inj e_) (by omega)))
      replace BK7 := Aside0.mk (blk_grown BK7.out hg_ (fun e_ => absurd (Option.some.inj e_) (by have := N7.out; omega)))
      replace BK8 := Aside0.mk (blk_grown BK8.out hg_ (fun e_ => absurd (Option.some.inj e_) (by have := N7.out; have := N8.out; omega)))
      replace HS := Aside0.mk (Kd.S_mono (Kd.S_grown (Kd.S_types HS.out BK4.out (by decide)) hg_ (fun k_ hk_ e_ => hk_.2 (Option.some.inj e_))) (fun _ h_ => h_.1))
      replace HR := Aside0.mk (Kd.R_mono (Kd.R_grown (Kd.R_types HR.out BK4.out (by decide)) hg_ (fun k_ hk_ e_ => hk_.2 (Option.some.inj e_))) (fun _ h_ => h_.1))
      replace HB := Aside0.mk (below_of_grown HB.out hg_ (by omega) (below_size HB.out))
      replace BK4 := Aside0.mk hb_
      clear hb_ hg_
      refine hK.out _ _ ⟨(blk_cell BK7.out 0).trans rfl, (blk_cell BK7.out 1).trans rfl, (blk_cell BK7.out 2).trans rfl, (blk_cell BK7.out 3).trans rfl, (blk_cell BK7.out 4).trans rfl, (blk_cell BK7.out 5).trans rfl, (blk_cell BK7.out 6).trans rfl, (blk_cell BK8.out 0).trans rfl, (blk_cell BK8.out 1).trans rfl, (blk_cell BK8.out 2).trans rfl, (blk_cell BK8.out 3).trans rfl⟩ (fun hHeld => ?_)
      clear hK K
      refine one_ (i := 3) (N := none) #[true, true, true, true, false] rfl rfl (by kernel_rfl) (by decide) (fun K hK => ?_)
      obtain ⟨qc0, qc1, qc2, qc3, qf0, qf1, qf2, qf3⟩ := zc4 BK5
      have zl_ := blk_lt BK5.out
      refine stD_ (by rfl) rfl (w1 := (World.setCell (World.setCell (World.setCell (World.setCell w9 ⟨(w.heap.size + 3), 0, none⟩ (.int .i64 (ix : Int))) ⟨(w.heap.size + 3), 1, none⟩ (.int .i64 x1)) ⟨(w.heap.size + 3), 2, none⟩ (.int .i64 x2)) ⟨(w.heap.size + 3), 3, none⟩ (.int .i64 x3))) ?hr (puts4 BK5.out (.int .i64 (ix : Int)) (.int .i64 x1) (.int .i64 x2) (.int .i64 x3)) (grows4 w9 (w.heap.size + 3) (.int .i64 (ix : Int)) (.int .i64 x1) (.int .i64 x2) (.int .i64 x3)) ?_
      case hr => first | (go_simp; done) | (go_simp; rfl)
      intro w10 hb_ hg_
      clear qc0 qc1 qc2 qc3 qf0 qf1 qf2 qf3 zl_ hHeld
      replace BK4 := Aside0.mk (blk_grown BK4.out hg_ (fun e_ => absurd (Option.some.inj e_) (by omega)))
      replace BK7 := Aside0.mk (blk_grown BK7.out hg_ (fun e_ => absurd (Option.some.inj e_) (by have := N7.out; omega)))
      replace BK8 := Aside0.mk (blk_grown BK8.out hg_ (fun e_ => absurd (Option.some.inj e_) (by have := N7.out; have := N8.out; omega)))
      replace HS := Aside0.mk (Kd.S_mono (Kd.S_grown (Kd.S_types HS.out BK5.out (by decide)) hg_ (fun k_ hk_ e_ => hk_.2 (Option.some.inj e_))) (fun _ h_ => h_.1))
      replace HR := Aside0.mk (Kd.R_mono (Kd.R_grown (Kd.R_types HR.out BK5.out (by decide)) hg_ (fun k_ hk_ e_ => hk_.2 (Option.some.inj e_))) (fun _ h_ => h_.1))
      replace HB := Aside0.mk (below_of_grown HB.out hg_ (by omega) (below_size HB.out))
      replace BK5 := Aside0.mk hb_
      clear hb_ hg_
      refine hK.out _ _ ⟨(blk_cell BK7.out 0).trans rfl, (blk_cell BK7.out 1).trans rfl, (blk_cell BK7.out 2).trans rfl, (blk_cell BK7.out 3).trans rfl, (blk_cell BK7.out 4).trans rfl, (blk_cell BK7.out 5).trans rfl, (blk_cell BK7.out 6).trans rfl, (blk_cell BK8.out 0).trans rfl, (blk_cell BK8.out 1).trans rfl, (blk_cell BK8.out 2).trans rfl, (blk_cell BK8.out 3).trans rfl⟩ (fun hHeld => ?_)
      clear hK K
      refine pure_ (i := 4) (N := some 6) (v := ?_) (a' := ?_) #[true, true, true, true, true] rfl rfl (by kernel_rfl) (fun _ _ _ h => h) (Or.inl ⟨by rfl, ?_⟩) ?_ ?_
      rotate_left
      · intro w'
        go_simp
        with_reducible rfl
      rotate_left
      · simp only [Act.put, List.setIfInBounds_toArray, List.set_cons_zero, List.set_cons_succ, i64_w, i32_w]
        rfl
      refine done_ (by kernel_rfl) ?_
      try go_wp2
      refine bodyPost_ret (results_list (rs := [.cell 4 70, .cell 5 32, .tmp 6]) rfl (by simp) (.cell (w.heap.size + 2) 70 #[.slice (some ⟨gm, 0, none⟩) m.length c, .int .i64 b2, .int .i64 b3, .int .i64 b4, .int .i64 b5, .int .i64 b6, .slice A7 l7.length c7] (0, 0) _ rfl BK4.out hu1 rfl (by kernel_rfl) (.cell (w.heap.size + 3) 32 #[.int .i64 (ix : Int), .int .i64 x1, .int .i64 x2, .int .i64 x3] (0, 0) _ rfl BK5.out hu2 rfl (by kernel_rfl) (.tmp .nil)))) rfl ?_
      exact ⟨_, _, rfl, HS.out, HR.out, HB.out⟩
    · rw [if_neg hok] at h1
      exact absurd h1 (by simp)
end Go.Proofs.Ytmkcbbbknbahgaa.P
namespace Go.Proofs.Ytmkcbbbknbahgaa.P
open Go.RowKit Go.Proofs.YtmkcbbbknbahgaaW.PrintWords Go.Proofs.YtmkcbbbknbahgaaW.PrintLast Go.Proofs.YtmkcbbbknbahgaaW.PrintMore
attribute [local go_sem] max2_int min2_int max_two min_two max_three min_three max_four min_four   -- for this text's walks alone
set_option linter.unusedVariables false
set_option linter.unusedSimpArgs false

def laws_szByteS.f (l0 : List Int) (a1 : Int) : Option (Int) := if (wrap64 (a1 - (l0.length : Int))) < 0 then (some (-1)) else (some (wrap64 (a1 - (l0.length : Int))))

set_option maxHeartbeats 8000000 in
set_option maxRecDepth 100000 in
theorem laws_szByteS.calls (A0 : Option Addr) (c0 : Nat) (l0 : List Int) (a1 : Int) (r : Int) (w : World) (hr0 : Kd.C (Kd.int .u8) w A0 l0.length l0) (hc0 : l0.length ≤ c0) (h : laws_szByteS.f l0 a1 = some r) :
  Calls Try.prog 89 #[.slice A0 l0.length c0, .int .i64 a1] w fun e w' => e = .returned (.int .i64 r) ∧ Drawn0 w w' := by
 have HR0 := Aside0.mk hr0
 have HC0 := Aside0.mk hc0
 clear hr0 hc0
 have H : (if (wrap64 (a1 - (l0.length : Int))) < 0 then (some (-1)) else (some (wrap64 (a1 - (l0.length : Int))))) = some r := h
 clear h
 by_cases c3 : (wrap64 (a1 - (l0.length : Int))) < 0
 ·rw [if_pos c3] at H
  have c3b0 : decide ((wrap64 (a1 - (l0.length : Int))) < 0) = true := decide_eq_true c3
  clear c3
  obtain rfl := Option.some.inj H
  go_enter Try.func89, Try.ntmps89
  go_wp2
  go_ret
  exact ⟨by first | rfl | (simp; done) | (simp [*]; done), by repeat (first | exact Drawn0.refl _ | apply Drawn0.step)⟩
 ·rw [if_neg c3] at H
  have c3b0 : decide ((wrap64 (a1 - (l0.length : Int))) < 0) = false := decide_eq_false c3
  clear c3
  obtain rfl := Option.some.inj H
  go_enter Try.func89, Try.ntmps89
  go_wp2
  go_ret
  exact ⟨by first | rfl | (simp; done) | (simp [*]; done), by repeat (first | exact Drawn0.refl _ | apply Drawn0.step)⟩
end Go.Proofs.Ytmkcbbbknbahgaa.P
namespace Go.Proofs.Ytmkcbbbknbahgaa.P
open Go.RowKit Go.Proofs.YtmkcbbbknbahgaaW.PrintWords Go.Proofs.YtmkcbbbknbahgaaW.PrintLast Go.Proofs.YtmkcbbbknbahgaaW.PrintMore
attribute [local go_sem] max2_int min2_int max_two min_two max_three min_three max_four min_four   -- for this text's walks alone
set_option linter.unusedVariables false
set_option linter.unusedSimpArgs false

def laws_szByteSS.l0 : Nat → List (List Int) → Int → Int → Option (Int)
 | 0, _, _, _ => none
 | k + 1, x0, x1, x5 => if x5 < (x0.length : Int) then (if 0 ≤ x5 then ((laws_szByteS.f (rd_L1 x0 x5) x1).bind fun t102 => (if t102 < 0 then (some (-1)) else (laws_szByteSS.l0 k x0 t102 (wrap64 (x5 + 1))))) else (none)) else (some x1)

def laws_szByteSS.f (k : Nat) (l0 : List (List Int)) (a1 : Int) : Option (Int) := if (wrap64 (a1 - (l0.length : Int))) < 0 then (some (-1)) else (laws_szByteSS.l0 k l0 (wrap64 (a1 - (l0.length : Int))) 0)

set_option maxHeartbeats 8000000 in
set_option maxRecDepth 100000 in
theorem laws_szByteSS.calls (k : Nat) (A0 : Option Addr) (c0 : Nat) (l0 : List (List Int)) (a1 : Int) (r : Int) (w : World) (hr0 : Kd.C (Kd.slice 5 (Kd.int .u8)) w A0 l0.length l0) (hc0 : l0.length ≤ c0) (h : laws_szByteSS.f k l0 a1 = some r) :
  Calls Try.prog 113 #[.slice A0 l0.length c0, .int .i64 a1] w fun e w' => e = .returned (.int .i64 r) ∧ Drawn0 w w' := by
 have HR0 := Aside0.mk hr0
 have HC0 := Aside0.mk hc0
 clear hr0 hc0
 have H : (if (wrap64 (a1 - (l0.length : Int))) < 0 then (some (-1)) else (laws_szByteSS.l0 k l0 (wrap64 (a1 - (l0.length : Int))) 0)) = some r := h
 clear h
 by_cases c3 : (wrap64 (a1 - (l0.length : Int))) < 0
 ·rw [if_pos c3] at H
  have c3b0 : decide ((wrap64 (a1 - (l0.length : Int))) < 0) = true := decide_eq_true c3
  clear c3
  obtain rfl := Option.some.inj H
  go_enter Try.func113, Try.ntmps113
  go_wp2
  go_ret
  exact ⟨by first | rfl | (simp; done) | (simp [*]; done), by repeat (first | exact Drawn0.refl _ | apply Drawn0.step)⟩
 ·rw [if_neg c3] at H
  have c3b0 : decide ((wrap64 (a1 - (l0.length : Int))) < 0) = false := decide_eq_false c3
  clear c3
  have H' := Aside0.mk H
  clear H
  go_enter Try.func113, Try.ntmps113
  go_wp2
  go_loopg [1, 5] k (fun kq v1 v5 w' => ∃ (x1_1 : Int) (x5_1 : Int), v1 = .int .i64 x1_1 ∧ v5 = .int .i64 x5_1 ∧ Aside0 (laws_szByteSS.l0 kq l0 x1_1 x5_1 = some r) ∧ Aside0 (kq ≤ k) ∧ Drawn0 w w')
  case atStart => exact ⟨(wrap64 (a1 - (l0.length : Int))), (0), (by first | rfl | (simp; done) | (simp [*]; done)), (by first | rfl | (simp; done) | (simp [*]; done)), H', ⟨Nat.le_refl _⟩, by repeat (first | exact Drawn0.refl _ | apply Drawn0.step)⟩
  case round =>
   clear H'
   try clear c1
   try clear p2
   try clear c3
   try clear c3b0
   obtain ⟨x1_1, x5_1, rfl, rfl, HA, HK1, ⟨m1, rfl⟩⟩ := hrel
   cases gk with
   | zero => exact absurd HA.out (by simp [laws_szByteSS.l0])
   | succ k1 =>
    have H := HA.out
    clear HA
    simp only [laws_szByteSS.l0] at H
    by_cases c4 : x5_1 < (l0.length : Int)
    ·rw [if_pos c4] at H
     have c4b0 : decide (x5_1 < (l0.length : Int)) = true := decide_eq_true c4
     clear c4
     by_cases c5 : 0 ≤ x5_1
     ·rw [if_pos c5] at H
      have c5b0 : decide (0 ≤ x5_1) = true := decide_eq_true c5
      clear c5
      replace H := Option.bind_eq_some_iff.mp H
      obtain ⟨t102, A60, H⟩ := H
      replace H : (if t102 < 0 then (some (-1)) else (laws_szByteSS.l0 k1 l0 t102 (wrap64 (x5_1 + 1)))) = some r := H
      have A6 := Aside0.mk A60
      clear A60
      by_cases c7 : t102 < 0
      ·rw [if_pos c7] at H
       have c7b0 : decide (t102 < 0) = true := decide_eq_true c7
       clear c7
       obtain rfl := Option.some.inj H
       have p101 : 0 ≤ (x5_1 : Int) := of_decide_eq_true as_
       have q101 : x5_1 < (l0.length : Int) := of_decide_eq_true as_
       obtain ⟨ad101, A101_0, c101_0, e101, hx101_0, hl101_0, hi101_0⟩ := at_L1 HR0.out x5_1 p101 q101
       cases e101
       have HR101_0 := Aside0.mk hi101_0
       have HC101_0 := Aside0.mk hl101_0
       clear hi101_0 hl101_0
       replace p101 := eq_true p101
       replace q101 := eq_true q101
       go_wp2_with (first | ((with_reducible refine gate_callee (f := 89) rfl ?_); refine goesL_ (some 23) rfl rfl Try.func89 (by kernel_rfl) rfl #[.slice A101_0 (rd_L1 l0 x5_1).length c101_0, .int .i64 x1_1] rfl ar_ ?_; (with_reducible refine (laws_szByteS.calls _ _ (rd_L1 l0 x5_1) x1_1 t102 _ ?side1 ?side2 A6.out).mono ?_); (case side1 => exact cS_ HR101_0.out); (case side2 => exact HC101_0.out); rintro e w' ⟨rfl, ⟨nd, rfl⟩⟩; refine ⟨_, rfl, ?_⟩))
       go_ret
       exact ⟨by first | rfl | (simp; done) | (simp [*]; done), by repeat (first | exact Drawn0.refl _ | apply Drawn0.step)⟩
      ·rw [if_neg c7] at H
       have c7b0 : decide (t102 < 0) = false := decide_eq_false c7
       clear c7
       have H' := Aside0.mk H
       clear H
       have p101 : 0 ≤ (x5_1 : Int) := of_decide_eq_true as_
       have q101 : x5_1 < (l0.length : Int) := of_decide_eq_true as_
       obtain ⟨ad101, A101_0, c101_0, e101, hx101_0, hl101_0, hi101_0⟩ := at_L1 HR0.out x5_1 p101 q101
       cases e101
       have HR101_0 := Aside0.mk hi101_0
       have HC101_0 := Aside0.mk hl101_0
       clear hi101_0 hl101_0
       replace p101 := eq_true p101
       replace q101 := eq_true q101
       go_wp2_with (first | ((with_reducible refine gate_callee (f := 89) rfl ?_); refine goesL_ (some 23) rfl rfl Try.func89 (by kernel_rfl) rfl #[.slice A101_0 (rd_L1 l0 x5_1).length c101_0, .int .i64 x1_1] rfl ar_ ?_; (with_reducible refine (laws_szByteS.calls _ _ (rd_L1 l0 x5_1) x1_1 t102 _ ?side1 ?side2 A6.out).mono ?_); (case side1 => exact cS_ HR101_0.out); (case side2 => exact HC101_0.out); rintro e w' ⟨rfl, ⟨nd, rfl⟩⟩; refine ⟨_, rfl, ?_⟩))
       go_roundg k1
       case measure => have := HK1.out; omega
       case rel => exact ⟨(t102), (wrap64 (x5_1 + 1)), (by first | rfl | (simp; done) | (simp [*]; done)), (by first | rfl | (simp; done) | (simp [*]; done)), H', ⟨by have := HK1.out; omega⟩, by repeat (first | exact Drawn0.refl _ | apply Drawn0.step)⟩
     ·rw [if_neg c5] at H
      exact absurd H (by simp)
    ·rw [if_neg c4] at H
     have c4b0 : decide (x5_1 < (l0.length : Int)) = false := decide_eq_false c4
     clear c4
     obtain rfl := Option.some.inj H
     go_wp2
     go_ret
     exact ⟨by first | rfl | (simp; done) | (simp [*]; done), by repeat (first | exact Drawn0.refl _ | apply Drawn0.step)⟩
end Go.Proofs.Ytmkcbbbknbahgaa.P
namespace Go.Proofs.Ytmkcbbbknbahgaa.P
open Go.RowKit Go.Proofs.YtmkcbbbknbahgaaW.PrintWords Go.Proofs.YtmkcbbbknbahgaaW.PrintLast Go.Proofs.YtmkcbbbknbahgaaW.PrintMore
attribute [local go_sem] max2_int min2_int max_two min_two max_three min_three max_four min_four   -- for this text's walks alone
set_option linter.unusedVariables false
set_option linter.unusedSimpArgs false

def laws_szMemory.f (k : Nat) (l0_0 : List (List Int)) (a1 : Int) : Option (Int) := (laws_szByteSS.f k l0_0 a1).bind fun t104 => (if t104 < 0 then (some (-1)) else (some t104))

set_option maxHeartbeats 8000000 in
set_option maxRecDepth 100000 in
theorem laws_szMemory.calls (k : Nat) (A0_0 : Option Addr) (c0_0 : Nat) (l0_0 : List (List Int)) (a1 : Int) (r : Int) (w : World) (hr0_0 : Kd.C (Kd.slice 5 (Kd.int .u8)) w A0_0 l0_0.length l0_0) (hc0_0 : l0_0.length ≤ c0_0) (h : laws_szMemory.f k l0_0 a1 = some r) :
  Calls Try.prog 55 #[.agg #[.slice A0_0 l0_0.length c0_0], .int .i64 a1] w fun e w' => e = .returned (.int .i64 r) ∧ Below w.heap.size w w' := by
 have hu24 := Try.underlying24
 have HR0_0 := Aside0.mk hr0_0
 have HC0_0 := Aside0.mk hc0_0
 clear hr0_0 hc0_0
 have HB := Aside0.mk (Below.refl w.heap.size w)
 have H : ((laws_szByteSS.f k l0_0 a1).bind fun t104 => (if t104 < 0 then (some (-1)) else (some t104))) = some r := h
 clear h
 replace H := Option.bind_eq_some_iff.mp H
 obtain ⟨t104, A30, H⟩ := H
 replace H : (if t104 < 0 then (some (-1)) else (some t104)) = some r := H
 have A3 := Aside0.mk A30
 clear A30
 by_cases c4 : t104 < 0
 ·rw [if_pos c4] at H
  have c4b0 : decide (t104 < 0) = true := decide_eq_true c4
  clear c4
  obtain rfl := Option.some.inj H
  go_enter Try.func55, Try.ntmps55
  go_wp2_with (first | ((with_reducible refine gate_dst (N := 2) rfl ?_); refine box_event ?hg (N := 2) ?hd (cs := #[.slice A0_0 l0_0.length c0_0]) (t := 24) ?hr ?_; (case hd => rfl); (case hg => rfl); (case hr => exact gs_); intro gb103 hg w5 hbox hb; have BK103 := Aside0.mk (hbox); have GW103 := gE_ HB hg; have GE103 := gE_ HB hg; replace HB := Aside0.mk (below_step (by repeat (first | (with_reducible first | exact HB.out | apply ba_ | apply bn_ | apply bd_) | exact HB.out)) hb); clear hb hbox hg; obtain ⟨hcz6_0, hfz6_0⟩ := zc1_ BK103) | ((with_reducible refine gate_callee (f := 113) rfl ?_); refine goesL_ (some 8) rfl rfl Try.func113 (by kernel_rfl) rfl #[.slice A0_0 l0_0.length c0_0, .int .i64 a1] rfl ar_ ?_; (with_reducible refine (laws_szByteSS.calls k _ _ l0_0 a1 t104 _ ?side1 ?side2 A3.out).mono ?_); (case side1 => exact cS_ (Kd.C_below HR0_0.out HB.out)); (case side2 => exact HC0_0.out); rintro e w' ⟨rfl, ⟨nd, rfl⟩⟩; refine ⟨_, rfl, ?_⟩))
  go_ret
  exact ⟨er_, by repeat (first | (with_reducible first | exact HB.out | apply below_alloc | apply pw_below_drewN | apply below_drew1 | refine below_set ?_ GE103.out) | exact HB.out)⟩
 ·rw [if_neg c4] at H
  have c4b0 : decide (t104 < 0) = false := decide_eq_false c4
  clear c4
  obtain rfl := Option.some.inj H
  go_enter Try.func55, Try.ntmps55
  go_wp2_with (first | ((with_reducible refine gate_dst (N := 2) rfl ?_); refine box_event ?hg (N := 2) ?hd (cs := #[.slice A0_0 l0_0.length c0_0]) (t := 24) ?hr ?_; (case hd => rfl); (case hg => rfl); (case hr => exact gs_); intro gb103 hg w7 hbox hb; have BK103 := Aside0.mk (hbox); have GW103 := gE_ HB hg; have GE103 := gE_ HB hg; replace HB := Aside0.mk (below_step (by repeat (first | (with_reducible first | exact HB.out | apply ba_ | apply bn_ | apply bd_) | exact HB.out)) hb); clear hb hbox hg; obtain ⟨hcz8_0, hfz8_0⟩ := zc1_ BK103) | ((with_reducible refine gate_callee (f := 113) rfl ?_); refine goesL_ (some 8) rfl rfl Try.func113 (by kernel_rfl) rfl #[.slice A0_0 l0_0.length c0_0, .int .i64 a1] rfl ar_ ?_; (with_reducible refine (laws_szByteSS.calls k _ _ l0_0 a1 t104 _ ?side1 ?side2 A3.out).mono ?_); (case side1 => exact cS_ (Kd.C_below HR0_0.out HB.out)); (case side2 => exact HC0_0.out); rintro e w' ⟨rfl, ⟨nd, rfl⟩⟩; refine ⟨_, rfl, ?_⟩))
  go_ret
  exact ⟨er_, by repeat (first | (with_reducible first | exact HB.out | apply below_alloc | apply pw_below_drewN | apply below_drew1 | refine below_set ?_ GE103.out) | exact HB.out)⟩
end Go.Proofs.Ytmkcbbbknbahgaa.P
namespace Go.Proofs.Ytmkcbbbknbahgaa.P
open Go.RowKit Go.Proofs.YtmkcbbbknbahgaaW.PrintWords Go.Proofs.YtmkcbbbknbahgaaW.PrintLast Go.Proofs.YtmkcbbbknbahgaaW.PrintMore
attribute [local go_sem] max2_int min2_int max_two min_two max_three min_three max_four min_four   -- for this text's walks alone
set_option linter.unusedVariables false
set_option linter.unusedSimpArgs false

def laws_szIntS.f (l0 : List Int) (a1 : Int) : Option (Int) := if (wrap64 (a1 - (l0.length : Int))) < 0 then (some (-1)) else (some (wrap64 (a1 - (l0.length : Int))))

set_option maxHeartbeats 8000000 in
set_option maxRecDepth 100000 in
theorem laws_szIntS.calls (A0 : Option Addr) (c0 : Nat) (l0 : List Int) (a1 : Int) (r : Int) (w : World) (hr0 : Kd.C (Kd.int .i64) w A0 l0.length l0) (hc0 : l0.length ≤ c0) (h : laws_szIntS.f l0 a1 = some r) :
  Calls Try.prog 95 #[.slice A0 l0.length c0, .int .i64 a1] w fun e w' => e = .returned (.int .i64 r) ∧ Drawn0 w w' := by
 have HR0 := Aside0.mk hr0
 have HC0 := Aside0.mk hc0
 clear hr0 hc0
 have H : (if (wrap64 (a1 - (l0.length : Int))) < 0 then (some (-1)) else (some (wrap64 (a1 - (l0.length : Int))))) = some r := h
 clear h
 by_cases c3 : (wrap64 (a1 - (l0.length : Int))) < 0
 ·rw [if_pos c3] at H
  have c3b0 : decide ((wrap64 (a1 - (l0.length : Int))) < 0) = true := decide_eq_true c3
  clear c3
  obtain rfl := Option.some.inj H
  go_enter Try.func95, Try.ntmps95
  go_wp2
  go_ret
  exact ⟨by first | rfl | (simp; done) | (simp [*]; done), by repeat (first | exact Drawn0.refl _ | apply Drawn0.step)⟩
 ·rw [if_neg c3] at H
  have c3b0 : decide ((wrap64 (a1 - (l0.length : Int))) < 0) = false := decide_eq_false c3
  clear c3
  obtain rfl := Option.some.inj H
  go_enter Try.func95, Try.ntmps95
  go_wp2
  go_ret
  exact ⟨by first | rfl | (simp; done) | (simp [*]; done), by repeat (first | exact Drawn0.refl _ | apply Drawn0.step)⟩
end Go.Proofs.Ytmkcbbbknbahgaa.P
namespace Go.Proofs.Ytmkcbbbknbahgaa.P
open Go.RowKit Go.Proofs.YtmkcbbbknbahgaaW.PrintWords Go.Proofs.YtmkcbbbknbahgaaW.PrintLast Go.Proofs.YtmkcbbbknbahgaaW.PrintMore
attribute [local go_sem] max2_int min2_int max_two min_two max_three min_three max_four min_four   -- for this text's walks alone
set_option linter.unusedVariables false
set_option linter.unusedSimpArgs false

def laws_szArena.f (k : Nat) (l0_0 : List (List Int)) (a0_1 : Int) (a0_2 : Int) (a0_3 : Int) (a0_4 : Int) (a0_5 : Int) (l0_6 : List Int) (a1 : Int) : Option (Int) := (laws_szMemory.f k l0_0 a1).bind fun t691 => (if t691 < 0 then (some (-1)) else ((laws_szIntS.f l0_6 t691).bind fun t692 => (if t692 < 0 then (some (-1)) else (some t692))))

set_option maxHeartbeats 8000000 in
set_option maxRecDepth 100000 in
theorem laws_szArena.calls (k : Nat) (A0_0 : Option Addr) (c0_0 : Nat) (l0_0 : List (List Int)) (a0_1 : Int) (a0_2 : Int) (a0_3 : Int) (a0_4 : Int) (a0_5 : Int) (A0_6 : Option Addr) (c0_6 : Nat) (l0_6 : List Int) (a1 : Int) (r : Int) (w : World) (hr0_0 : Kd.C (Kd.slice 5 (Kd.int .u8)) w A0_0 l0_0.length l0_0) (hc0_0 : l0_0.length ≤ c0_0) (hr0_6 : Kd.C (Kd.int .i64) w A0_6 l0_6.length l0_6) (hc0_6 : l0_6.length ≤ c0_6) (h : laws_szArena.f k l0_0 a0_1 a0_2 a0_3 a0_4 a0_5 l0_6 a1 = some r) :
  Calls Try.prog 35 #[.agg #[.slice A0_0 l0_0.length c0_0, .int .i64 a0_1, .int .i64 a0_2, .int .i64 a0_3, .int .i64 a0_4, .int .i64 a0_5, .slice A0_6 l0_6.length c0_6], .int .i64 a1] w fun e w' => e = .returned (.int .i64 r) ∧ Below w.heap.size w w' := by
 have hu65 := Try.underlying65
 have hu24 := Try.underlying24
 have HR0_0 := Aside0.mk hr0_0
 have HC0_0 := Aside0.mk hc0_0
 clear hr0_0 hc0_0
 have HR0_6 := Aside0.mk hr0_6
 have HC0_6 := Aside0.mk hc0_6
 clear hr0_6 hc0_6
 have HB := Aside0.mk (Below.refl w.heap.size w)
 have H : ((laws_szMemory.f k l0_0 a1).bind fun t691 => (if t691 < 0 then (some (-1)) else ((laws_szIntS.f l0_6 t691).bind fun t692 => (if t692 < 0 then (some (-1)) else (some t692))))) = some r := h
 clear h
 replace H := Option.bind_eq_some_iff.mp H
 obtain ⟨t691, A30, H⟩ := H
 replace H : (if t691 < 0 then (some (-1)) else ((laws_szIntS.f l0_6 t691).bind fun t692 => (if t692 < 0 then (some (-1)) else (some t692)))) = some r := H
 have A3 := Aside0.mk A30
 clear A30
 by_cases c4 : t691 < 0
 ·rw [if_pos c4] at H
  have c4b0 : decide (t691 < 0) = true := decide_eq_true c4
  clear c4
  obtain rfl := Option.some.inj H
  go_enter Try.func35, Try.ntmps35
  go_wp2_with (first | ((with_reducible refine gate_dst (N := 2) rfl ?_); refine box_event ?hg (N := 2) ?hd (cs := #[.slice A0_0 l0_0.length c0_0, .int .i64 a0_1, .int .i64 a0_2, .int .i64 a0_3, .int .i64 a0_4, .int .i64 a0_5, .slice A0_6 l0_6.length c0_6]) (t := 65) ?hr ?_; (case hd => rfl); (case hg => rfl); (case hr => exact gs_); intro gb690 hg w5 hbox hb; have BK690 := Aside0.mk (hbox); have GW690 := gE_ HB hg; have GE690 := gE_ HB hg; replace HB := Aside0.mk (below_step (by repeat (first | (with_reducible first | exact HB.out | apply ba_ | apply bn_ | apply bd_) | exact HB.out)) hb); clear hb hbox hg; obtain ⟨hcz6_0, hcz6_1, hcz6_2, hcz6_3, hcz6_4, hcz6_5, hcz6_6, hfz6_0, hfz6_1, hfz6_2, hfz6_3, hfz6_4, hfz6_5, hfz6_6⟩ := zc7_ BK690) | ((with_reducible refine gate_callee (f := 55) rfl ?_); refine goesL_ (some 8) rfl rfl Try.func55 (by kernel_rfl) rfl #[.agg #[.slice A0_0 l0_0.length c0_0], .int .i64 a1] rfl ar_ ?_; (with_reducible refine (laws_szMemory.calls k _ _ l0_0 a1 t691 _ ?side1 ?side2 A3.out).mono ?_); (case side1 => exact cS_ (Kd.C_below HR0_0.out HB.out)); (case side2 => exact HC0_0.out); rintro e w7 ⟨rfl, hb⟩; refine ⟨_, rfl, ?_⟩; replace BK690 := bB_ BK690 hb; replace HB := Aside0.mk (below_step (by repeat (first | (with_reducible first | exact HB.out | apply ba_ | apply bn_ | apply bd_ | refine bset_ ?_ (by assumption)) | exact HB.out)) hb); (try clear hb); (try clear hb2); (try clear hk); (try clear hi)))
  go_ret
  exact ⟨er_, by repeat (first | (with_reducible first | exact HB.out | apply below_alloc | apply pw_below_drewN | apply below_drew1 | refine below_set ?_ GE690.out) | exact HB.out)⟩
 ·rw [if_neg c4] at H
  have c4b0 : decide (t691 < 0) = false := decide_eq_false c4
  clear c4
  replace H := Option.bind_eq_some_iff.mp H
  obtain ⟨t692, A80, H⟩ := H
  replace H : (if t692 < 0 then (some (-1)) else (some t692)) = some r := H
  have A8 := Aside0.mk A80
  clear A80
  by_cases c9 : t692 < 0
  ·rw [if_pos c9] at H
   have c9b0 : decide (t692 < 0) = true := decide_eq_true c9
   clear c9
   obtain rfl := Option.some.inj H
   go_enter Try.func35, Try.ntmps35
   go_wp2_with (first | ((with_reducible refine gate_dst (N := 2) rfl ?_); refine box_event ?hg (N := 2) ?hd (cs := #[.slice A0_0 l0_0.length c0_0, .int .i64 a0_1, .int .i64 a0_2, .int .i64 a0_3, .int .i64 a0_4, .int .i64 a0_5, .slice A0_6 l0_6.length c0_6]) (t := 65) ?hr ?_; (case hd => rfl); (case hg => rfl); (case hr => exact gs_); intro gb690 hg w10 hbox hb; have BK690 := Aside0.mk (hbox); have GW690 := gE_ HB hg; have GE690 := gE_ HB hg; replace HB := Aside0.mk (below_step (by repeat (first | (with_reducible first | exact HB.out | apply ba_ | apply bn_ | apply bd_) | exact HB.out)) hb); clear hb hbox hg; obtain ⟨hcz11_0, hcz11_1, hcz11_2, hcz11_3, hcz11_4, hcz11_5, hcz11_6, hfz11_0, hfz11_1, hfz11_2, hfz11_3, hfz11_4, hfz11_5, hfz11_6⟩ := zc7_ BK690) | ((with_reducible refine gate_callee (f := 55) rfl ?_); refine goesL_ (some 8) rfl rfl Try.func55 (by kernel_rfl) rfl #[.agg #[.slice A0_0 l0_0.length c0_0], .int .i64 a1] rfl ar_ ?_; (with_reducible refine (laws_szMemory.calls k _ _ l0_0 a1 t691 _ ?side1 ?side2 A3.out).mono ?_); (case side1 => exact cS_ (Kd.C_below HR0_0.out HB.out)); (case side2 => exact HC0_0.out); rintro e w12 ⟨rfl, hb⟩; refine ⟨_, rfl, ?_⟩; replace BK690 := bB_ BK690 hb; replace HB := Aside0.mk (below_step (by repeat (first | (with_reducible first | exact HB.out | apply ba_ | apply bn_ | apply bd_ | refine bset_ ?_ (by assumption)) | exact HB.out)) hb); (try clear hb); (try clear hb2); (try clear hk); (try clear hi); obtain ⟨hcz13_0, hcz13_1, hcz13_2, hcz13_3, hcz13_4, hcz13_5, hcz13_6, hfz13_0, hfz13_1, hfz13_2, hfz13_3, hfz13_4, hfz13_5, hfz13_6⟩ := zc7_ BK690) | ((with_reducible refine gate_callee (f := 95) rfl ?_); refine goesL_ (some 14) rfl rfl Try.func95 (by kernel_rfl) rfl #[.slice A0_6 l0_6.length c0_6, .int .i64 t691] rfl ar_ ?_; (with_reducible refine (laws_szIntS.calls _ _ l0_6 t691 t692 _ ?side1 ?side2 A8.out).mono ?_); (case side1 => exact cS_ (Kd.C_below HR0_6.out HB.out)); (case side2 => exact HC0_6.out); rintro e w' ⟨rfl, ⟨nd, rfl⟩⟩; refine ⟨_, rfl, ?_⟩))
   go_ret
   exact ⟨er_, by repeat (first | (with_reducible first | exact HB.out | apply below_alloc | apply pw_below_drewN | apply below_drew1 | refine below_set ?_ GE690.out) | exact HB.out)⟩
  ·rw [if_neg c9] at H
   have c9b0 : decide (t692 < 0) = false := decide_eq_false c9
   clear c9
   obtain rfl := Option.some.inj H
   go_enter Try.func35, Try.ntmps35
   go_wp2_with (first | ((with_reducible refine gate_dst (N := 2) rfl ?_); refine box_event ?hg (N := 2) ?hd (cs := #[.slice A0_0 l0_0.length c0_0, .int .i64 a0_1, .int .i64 a0_2, .int .i64 a0_3, .int .i64 a0_4, .int .i64 a0_5, .slice A0_6 l0_6.length c0_6]) (t := 65) ?hr ?_; (case hd => rfl); (case hg => rfl); (case hr => exact gs_); intro gb690 hg w14 hbox hb; have BK690 := Aside0.mk (hbox); have GW690 := gE_ HB hg; have GE690 := gE_ HB hg; replace HB := Aside0.mk (below_step (by repeat (first | (with_reducible first | exact HB.out | apply ba_ | apply bn_ | apply bd_) | exact HB.out)) hb); clear hb hbox hg; obtain ⟨hcz15_0, hcz15_1, hcz15_2, hcz15_3, hcz15_4, hcz15_5, hcz15_6, hfz15_0, hfz15_1, hfz15_2, hfz15_3, hfz15_4, hfz15_5, hfz15_6⟩ := zc7_ BK690) | ((with_reducible refine gate_callee (f := 55) rfl ?_); refine goesL_ (some 8) rfl rfl Try.func55 (by kernel_rfl) rfl #[.agg #[.slice A0_0 l0_0.length c0_0], .int .i64 a1] rfl ar_ ?_; (with_reducible refine (laws_szMemory.calls k _ _ l0_0 a1 t691 _ ?side1 ?side2 A3.out).mono ?_); (case side1 => exact cS_ (Kd.C_below HR0_0.out HB.out)); (case side2 => exact HC0_0.out); rintro e w16 ⟨rfl, hb⟩; refine ⟨_, rfl, ?_⟩; replace BK690 := bB_ BK690 hb; replace HB := Aside0.mk (below_step (by repeat (first | (with_reducible first | exact HB.out | apply ba_ | apply bn_ | apply bd_ | refine bset_ ?_ (by assumption)) | exact HB.out)) hb); (try clear hb); (try clear hb2); (try clear hk); (try clear hi); obtain ⟨hcz17_0, hcz17_1, hcz17_2, hcz17_3, hcz17_4, hcz17_5, hcz17_6, hfz17_0, hfz17_1, hfz17_2, hfz17_3, hfz17_4, hfz17_5, hfz17_6⟩ := zc7_ BK690) | ((with_reducible refine gate_callee (f := 95) rfl ?_); refine goesL_ (some 14) rfl rfl Try.func95 (by kernel_rfl) rfl #[.slice A0_6 l0_6.length c0_6, .int .i64 t691] rfl ar_ ?_; (with_reducible refine (laws_szIntS.calls _ _ l0_6 t691 t692 _ ?side1 ?side2 A8.out).mono ?_); (case side1 => exact cS_ (Kd.C_below HR0_6.out HB.out)); (case side2 => exact HC0_6.out); rintro e w' ⟨rfl, ⟨nd, rfl⟩⟩; refine ⟨_, rfl, ?_⟩))
   go_ret
   exact ⟨er_, by repeat (first | (with_reducible first | exact HB.out | apply below_alloc | apply pw_below_drewN | apply below_drew1 | refine below_set ?_ GE690.out) | exact HB.out)⟩
end Go.Proofs.Ytmkcbbbknbahgaa.P
namespace Go.Proofs.Ytmkcbbbknbahgaa.P
open Go.RowKit Go.Proofs.YtmkcbbbknbahgaaW.PrintWords Go.Proofs.YtmkcbbbknbahgaaW.PrintLast Go.Proofs.YtmkcbbbknbahgaaW.PrintMore
attribute [local go_sem] max2_int min2_int max_two min_two max_three min_three max_four min_four   -- for this text's walks alone
set_option linter.unusedVariables false
set_option linter.unusedSimpArgs false

def laws_toIntS.l0 : Nat → List Int → List Int → Int → Option (List Int)
 | 0, _, _, _ => none
 | k + 1, x0, x3, x4 => if x4 < (x0.length : Int) then (if 0 ≤ x4 then (if x4 < (x3.length : Int) then (laws_toIntS.l0 k x0 (x3.set (x4 : Int).toNat (rd x0 x4)) (wrap64 (x4 + 1))) else (none)) else (none)) else (some x3)

def laws_toIntS.f (k : Nat) (l0 : List Int) : Option (List Int) := if 0 ≤ (l0.length : Int) then (if ((l0.length : Int) : Int).toNat ≤ 35184372088832 then (laws_toIntS.l0 k l0 (List.replicate ((l0.length : Int) : Int).toNat 0) 0) else (none)) else (none)

set_option maxHeartbeats 8000000 in
set_option maxRecDepth 100000 in
theorem laws_toIntS.calls (k : Nat) (A0 : Option Addr) (c0 : Nat) (l0 : List Int) (r : List Int) (w : World) (hr0 : Kd.C (Kd.int .i64) w A0 l0.length l0) (hc0 : l0.length ≤ c0) (h : laws_toIntS.f k l0 = some r) :
  Calls Try.prog 102 #[.slice A0 l0.length c0] w fun e w' => ∃ v0_ : Value, e = .returned (v0_) ∧ Kd.R (Kd.int .i64) 3 w' w.heap.size (fun _ => True) v0_ r ∧ Below w.heap.size w w' := by
 have HR0 := Aside0.mk hr0
 have HC0 := Aside0.mk hc0
 clear hr0 hc0
 have HB := Aside0.mk (Below.refl w.heap.size w)
 have H : (if 0 ≤ (l0.length : Int) then (if ((l0.length : Int) : Int).toNat ≤ 35184372088832 then (laws_toIntS.l0 k l0 (List.replicate ((l0.length : Int) : Int).toNat 0) 0) else (none)) else (none)) = some r := h
 clear h
 by_cases c2 : 0 ≤ (l0.length : Int)
 ·rw [if_pos c2] at H
  have c2b0 := eq_true c2
  have c2b1 : decide (0 ≤ (l0.length : Int)) = true := decide_eq_true c2
  clear c2
  by_cases c3 : ((l0.length : Int) : Int).toNat ≤ 35184372088832
  ·rw [if_pos c3] at H
   have c3b0 := eq_true c3
   have c3b1 : decide (((l0.length : Int) : Int).toNat ≤ 35184372088832) = true := decide_eq_true c3
   clear c3
   obtain ⟨y742, hy742⟩ : ∃ y_ : List Int, y_ = (List.replicate ((l0.length : Int) : Int).toNat 0) := ⟨_, rfl⟩
   replace H : (laws_toIntS.l0 k l0 y742 0) = some r := by first | (rw [hy742]; with_reducible exact H) | (have H2_ := (Option.bind_some _ _).symm.trans H; rw [hy742]; with_reducible exact H2_) | (have H2_ := (Option.bind_some _ _).symm.trans H; with_reducible exact H2_) | with_reducible exact H | (rw [hy742]; exact H) | exact H
   have Ny742 := Aside0.mk hy742
   clear hy742
   have H' := Aside0.mk H
   clear H
   go_enter Try.func102, Try.ntmps102
   go_wp2_with (first | ((with_reducible refine gate_dst (N := 7) rfl ?_); refine Kd.R_make (Kd.int .i64) _ 3 rfl (N := 7) rfl 63 _ _ rfl (l0.length : Int) rfl rfl Try.underlying63 (.int .i64 0) 8 info3 rfl (by decide) (by omega) 0 (ok := fun _ => True) (okp := fun _ => True) rfl (fun _ hk => hk) trivial (of_decide_eq_true as_) (Nat.le_trans (Nat.mul_le_mul_right _ (of_decide_eq_true as_ : (l0.length : Int).toNat ≤ 35184372088832)) (by omega)) (Below.refl _ _) (Nat.le_refl _) ?_; intro v743 w4 ho5 hb hg_ hnew_; clear hg_ hnew_; (first | rw [← Ny742.out] at ho5 | (simp only [Int.reduceToNat] at ho5; rw [← Ny742.out] at ho5)); have HO744 := Aside0.mk (rL_ ho5 HB); replace HB := Aside0.mk (below_step (by repeat (first | (with_reducible first | exact HB.out | apply ba_ | apply bn_ | apply bd_) | exact HB.out)) hb); clear hb ho5))
   go_loopg [4] k (fun kq v4 w' => ∃ (x3_1 : List Int) (x4_1 : Int), v4 = .int .i64 x4_1 ∧ Aside0 (laws_toIntS.l0 kq l0 x3_1 x4_1 = some r) ∧ Aside0 (kq ≤ k) ∧ Aside0 (Kd.R (Kd.int .i64) 3 w' w.heap.size (fun _ => True) v743 x3_1) ∧ Aside0 (Below w.heap.size w w'))
   case atStart => exact ⟨(y742), (0), (by first | rfl | (simp; done) | (simp [*]; done)), H', ⟨Nat.le_refl _⟩, ⟨by (with_reducible repeat first | apply kr1_ | apply kr2_ | apply kr3_); exact HO744.out⟩, ⟨by repeat (first | (with_reducible first | exact HB.out | apply below_alloc | apply pw_below_drewN | apply below_drew1) | exact HB.out)⟩⟩
   case round =>
    clear H'
    try clear c1
    try clear c2
    try clear c2b0
    try clear c2b1
    try clear p2
    try clear c3
    try clear c3b0
    try clear c3b1
    obtain ⟨x3_1, x4_1, rfl, HA, HK1, HO_3, HB⟩ := hrel
    cases gk with
    | zero => exact absurd HA.out (by simp [laws_toIntS.l0])
    | succ k1 =>
     have H := HA.out
     clear HA
     simp only [laws_toIntS.l0] at H
     by_cases c6 : x4_1 < (l0.length : Int)
     ·rw [if_pos c6] at H
      have c6b0 : decide (x4_1 < (l0.length : Int)) = true := decide_eq_true c6
      clear c6
      by_cases c7 : 0 ≤ x4_1
      ·rw [if_pos c7] at H
       have c7b0 : decide (0 ≤ x4_1) = true := decide_eq_true c7
       clear c7
       by_cases c8 : x4_1 < (x3_1.length : Int)
       ·rw [if_pos c8] at H
        have c8b0 : decide (x4_1 < (x3_1.length : Int)) = true := decide_eq_true c8
        clear c8
        obtain ⟨y746, hy746⟩ : ∃ y_ : List Int, y_ = (x3_1.set (x4_1 : Int).toNat (rd l0 x4_1)) := ⟨_, rfl⟩
        replace H : (laws_toIntS.l0 k1 l0 y746 (wrap64 (x4_1 + 1))) = some r := by first | (rw [hy746]; with_reducible exact H) | (have H2_ := (Option.bind_some _ _).symm.trans H; rw [hy746]; with_reducible exact H2_) | (have H2_ := (Option.bind_some _ _).symm.trans H; with_reducible exact H2_) | with_reducible exact H | (rw [hy746]; exact H) | exact H
        have Ny746 := Aside0.mk hy746
        clear hy746
        have H' := Aside0.mk H
        clear H
        have p745 : 0 ≤ (x4_1 : Int) := of_decide_eq_true as_
        have q745 : x4_1 < (l0.length : Int) := of_decide_eq_true as_
        obtain ⟨ad745, e745, hx745_0⟩ := Kd.at_int HR0.out x4_1 p745 q745
        cases e745
        replace hx745_0 := (HB.out.cell (World.block_lt_of_cell? w _ hx745_0)).trans hx745_0
        replace p745 := eq_true p745
        replace q745 := eq_true q745
        have p9 : 0 ≤ (x4_1 : Int) := of_decide_eq_true as_
        have q9 : (x4_1 : Int) < ((x3_1.length : Int) : Int) := of_decide_eq_true as_
        obtain ⟨go9, co9, eo9, gb9, gl9, cl9, HG9⟩ := Kd.R_form HO_3.out (by omega)
        (first | cases eo9 | (injection eo9 with ea_ en_ ec_; (first | subst ea_ | (injection ea_ with ea_; subst ea_)); subst ec_; clear en_))
        have GB9 := Aside0.mk gb9
        have GG9 := Aside0.mk HG9
        clear gb9 gl9 HG9
        obtain ⟨hx9_0, hf9_0⟩ := Kd.R_celln 0 HO_3.out (x4_1 : Int) p9 q9
        replace p9 := eq_true p9
        replace q9 := eq_true q9
        have HP10 := Kd.R_putg HO_3.out (x4_1 : Int) (rd l0 x4_1)
        go_wp2_with (first | ((with_reducible refine gate_store (t := 3) (p := 20) rfl ?_); refine store_event (t := 3) (p := 20) (v := ?vo_w11) (w1 := (wr.setCell ⟨go9, (x4_1 : Int).toNat, none⟩ (.int .i64 (rd l0 x4_1)))) ?hg ?ho ?hn ?hr ?_; (case ho => rfl); (case hg => rfl); (case hn => rfl); (case hr => exact gs_); intro w11 hw; have hg : wr.grownBy w11 (some go9) := (by rw [hw]; exact HP10.2); have hp_ : Kd.R (Kd.int .i64) 3 w11 w.heap.size (fun _ => True) (.slice (some ⟨go9, 0, none⟩) x3_1.length co9) y746 := (by rw [hw, Ny746.out]; exact HP10.1); clear HP10; replace HO_3 := Aside0.mk (hp_); replace HB := Aside0.mk ((by rw [hw]; exact below_set (HB.out) GB9.out : Below w.heap.size w w11)); clear hg hw hp_))
        go_roundg k1
        case measure => have := HK1.out; omega
        case rel => exact ⟨(y746), (wrap64 (x4_1 + 1)), (by first | rfl | (simp; done) | (simp [*]; done)), H', ⟨by have := HK1.out; omega⟩, ⟨by (with_reducible repeat first | apply kr1_ | apply kr2_ | apply kr3_); exact HO_3.out⟩, ⟨by repeat (first | (with_reducible first | exact HB.out | apply below_alloc | apply pw_below_drewN | apply below_drew1) | exact HB.out)⟩⟩
       ·rw [if_neg c8] at H
        exact absurd H (by simp)
      ·rw [if_neg c7] at H
       exact absurd H (by simp)
     ·rw [if_neg c6] at H
      have c6b0 : decide (x4_1 < (l0.length : Int)) = false := decide_eq_false c6
      clear c6
      obtain rfl := Option.some.inj H
      go_wp2
      go_ret
      exact ⟨_, er_, by (with_reducible repeat first | apply kr1_ | apply kr2_ | apply kr3_); exact HO_3.out, by repeat (first | (with_reducible first | exact HB.out | apply below_alloc | apply pw_below_drewN | apply below_drew1) | exact HB.out)⟩
  ·rw [if_neg c3] at H
   exact absurd H (by simp)
 ·rw [if_neg c2] at H
  exact absurd H (by simp)
end Go.Proofs.Ytmkcbbbknbahgaa.P
namespace Go.Proofs.Ytmkcbbbknbahgaa.P
open Go.RowKit Go.Proofs.YtmkcbbbknbahgaaW.PrintWords Go.Proofs.YtmkcbbbknbahgaaW.PrintLast Go.Proofs.YtmkcbbbknbahgaaW.PrintMore
attribute [local go_sem] max2_int min2_int max_two min_two max_three min_three max_four min_four   -- for this text's walks alone
set_option linter.unusedVariables false
set_option linter.unusedSimpArgs false

def laws_toByteS.l0 : Nat → List Int → List Int → Int → Option (List Int)
 | 0, _, _, _ => none
 | k + 1, x0, x3, x4 => if x4 < (x0.length : Int) then (if 0 ≤ x4 then (if x4 < (x3.length : Int) then (laws_toByteS.l0 k x0 (x3.set (x4 : Int).toNat (rd x0 x4)) (wrap64 (x4 + 1))) else (none)) else (none)) else (some x3)

def laws_toByteS.f (k : Nat) (l0 : List Int) : Option (List Int) := if 0 ≤ (l0.length : Int) then (if ((l0.length : Int) : Int).toNat ≤ 281474976710656 then (laws_toByteS.l0 k l0 (List.replicate ((l0.length : Int) : Int).toNat 0) 0) else (none)) else (none)

set_option maxHeartbeats 8000000 in
set_option maxRecDepth 100000 in
theorem laws_toByteS.calls (k : Nat) (A0 : Option Addr) (c0 : Nat) (l0 : List Int) (r : List Int) (w : World) (hr0 : Kd.C (Kd.int .u8) w A0 l0.length l0) (hc0 : l0.length ≤ c0) (h : laws_toByteS.f k l0 = some r) :
  Calls Try.prog 16 #[.slice A0 l0.length c0] w fun e w' => ∃ v0_ : Value, e = .returned (v0_) ∧ Kd.R (Kd.int .u8) 5 w' w.heap.size (fun _ => True) v0_ r ∧ Below w.heap.size w w' := by
 have HR0 := Aside0.mk hr0
 have HC0 := Aside0.mk hc0
 clear hr0 hc0
 have HB := Aside0.mk (Below.refl w.heap.size w)
 have H : (if 0 ≤ (l0.length : Int) then (if ((l0.length : Int) : Int).toNat ≤ 281474976710656 then (laws_toByteS.l0 k l0 (List.replicate ((l0.length : Int) : Int).toNat 0) 0) else (none)) else (none)) = some r := h
 clear h
 by_cases c2 : 0 ≤ (l0.length : Int)
 ·rw [if_pos c2] at H
  have c2b0 := eq_true c2
  have c2b1 : decide (0 ≤ (l0.length : Int)) = true := decide_eq_true c2
  clear c2
  by_cases c3 : ((l0.length : Int) : Int).toNat ≤ 281474976710656
  ·rw [if_pos c3] at H
   have c3b0 := eq_true c3
   have c3b1 : decide (((l0.length : Int) : Int).toNat ≤ 281474976710656) = true := decide_eq_true c3
   clear c3
   obtain ⟨y272, hy272⟩ : ∃ y_ : List Int, y_ = (List.replicate ((l0.length : Int) : Int).toNat 0) := ⟨_, rfl⟩
   replace H : (laws_toByteS.l0 k l0 y272 0) = some r := by first | (rw [hy272]; with_reducible exact H) | (have H2_ := (Option.bind_some _ _).symm.trans H; rw [hy272]; with_reducible exact H2_) | (have H2_ := (Option.bind_some _ _).symm.trans H; with_reducible exact H2_) | with_reducible exact H | (rw [hy272]; exact H) | exact H
   have Ny272 := Aside0.mk hy272
   clear hy272
   have H' := Aside0.mk H
   clear H
   go_enter Try.func16, Try.ntmps16
   go_wp2_with (first | ((with_reducible refine gate_dst (N := 7) rfl ?_); refine Kd.R_make (Kd.int .u8) _ 5 rfl (N := 7) rfl 29 _ _ rfl (l0.length : Int) rfl rfl Try.underlying29 (.int .u8 0) 1 info5 rfl (by decide) (by omega) 0 (ok := fun _ => True) (okp := fun _ => True) rfl (fun _ hk => hk) trivial (of_decide_eq_true as_) (Nat.le_trans (Nat.mul_le_mul_right _ (of_decide_eq_true as_ : (l0.length : Int).toNat ≤ 281474976710656)) (by omega)) (Below.refl _ _) (Nat.le_refl _) ?_; intro v273 w4 ho5 hb hg_ hnew_; clear hg_ hnew_; (first | rw [← Ny272.out] at ho5 | (simp only [Int.reduceToNat] at ho5; rw [← Ny272.out] at ho5)); have HO274 := Aside0.mk (rL_ ho5 HB); replace HB := Aside0.mk (below_step (by repeat (first | (with_reducible first | exact HB.out | apply ba_ | apply bn_ | apply bd_) | exact HB.out)) hb); clear hb ho5))
   go_loopg [4] k (fun kq v4 w' => ∃ (x3_1 : List Int) (x4_1 : Int), v4 = .int .i64 x4_1 ∧ Aside0 (laws_toByteS.l0 kq l0 x3_1 x4_1 = some r) ∧ Aside0 (kq ≤ k) ∧ Aside0 (Kd.R (Kd.int .u8) 5 w' w.heap.size (fun _ => True) v273 x3_1) ∧ Aside0 (Below w.heap.size w w'))
   case atStart => exact ⟨(y272), (0), (by first | rfl | (simp; done) | (simp [*]; done)), H', ⟨Nat.le_refl _⟩, ⟨by (with_reducible repeat first | apply kr1_ | apply kr2_ | apply kr3_); exact HO274.out⟩, ⟨by repeat (first | (with_reducible first | exact HB.out | apply below_alloc | apply pw_below_drewN | apply below_drew1) | exact HB.out)⟩⟩
   case round =>
    clear H'
    try clear c1
    try clear c2
    try clear c2b0
    try clear c2b1
    try clear p2
    try clear c3
    try clear c3b0
    try clear c3b1
    obtain ⟨x3_1, x4_1, rfl, HA, HK1, HO_3, HB⟩ := hrel
    cases gk with
    | zero => exact absurd HA.out (by simp [laws_toByteS.l0])
    | succ k1 =>
     have H := HA.out
     clear HA
     simp only [laws_toByteS.l0] at H
     by_cases c6 : x4_1 < (l0.length : Int)
     ·rw [if_pos c6] at H
      have c6b0 : decide (x4_1 < (l0.length : Int)) = true := decide_eq_true c6
      clear c6
      by_cases c7 : 0 ≤ x4_1
      ·rw [if_pos c7] at H
       have c7b0 : decide (0 ≤ x4_1) = true := decide_eq_true c7
       clear c7
       by_cases c8 : x4_1 < (x3_1.length : Int)
       ·rw [if_pos c8] at H
        have c8b0 : decide (x4_1 < (x3_1.length : Int)) = true := decide_eq_true c8
        clear c8
        obtain ⟨y276, hy276⟩ : ∃ y_ : List Int, y_ = (x3_1.set (x4_1 : Int).toNat (rd l0 x4_1)) := ⟨_, rfl⟩
        replace H : (laws_toByteS.l0 k1 l0 y276 (wrap64 (x4_1 + 1))) = some r := by first | (rw [hy276]; with_reducible exact H) | (have H2_ := (Option.bind_some _ _).symm.trans H; rw [hy276]; with_reducible exact H2_) | (have H2_ := (Option.bind_some _ _).symm.trans H; with_reducible exact H2_) | with_reducible exact H | (rw [hy276]; exact H) | exact H
        have Ny276 := Aside0.mk hy276
        clear hy276
        have H' := Aside0.mk H
        clear H
        have p275 : 0 ≤ (x4_1 : Int) := of_decide_eq_true as_
        have q275 : x4_1 < (l0.length : Int) := of_decide_eq_true as_
        obtain ⟨ad275, e275, hx275_0⟩ := Kd.at_int HR0.out x4_1 p275 q275
        cases e275
        replace hx275_0 := (HB.out.cell (World.block_lt_of_cell? w _ hx275_0)).trans hx275_0
        replace p275 := eq_true p275
        replace q275 := eq_true q275
        have p9 : 0 ≤ (x4_1 : Int) := of_decide_eq_true as_
        have q9 : (x4_1 : Int) < ((x3_1.length : Int) : Int) := of_decide_eq_true as_
        obtain ⟨go9, co9, eo9, gb9, gl9, cl9, HG9⟩ := Kd.R_form HO_3.out (by omega)
        (first | cases eo9 | (injection eo9 with ea_ en_ ec_; (first | subst ea_ | (injection ea_ with ea_; subst ea_)); subst ec_; clear en_))
        have GB9 := Aside0.mk gb9
        have GG9 := Aside0.mk HG9
        clear gb9 gl9 HG9
        obtain ⟨hx9_0, hf9_0⟩ := Kd.R_celln 0 HO_3.out (x4_1 : Int) p9 q9
        replace p9 := eq_true p9
        replace q9 := eq_true q9
        have HP10 := Kd.R_putg HO_3.out (x4_1 : Int) (rd l0 x4_1)
        go_wp2_with (first | ((with_reducible refine gate_store (t := 5) (p := 20) rfl ?_); refine store_event (t := 5) (p := 20) (v := ?vo_w11) (w1 := (wr.setCell ⟨go9, (x4_1 : Int).toNat, none⟩ (.int .u8 (rd l0 x4_1)))) ?hg ?ho ?hn ?hr ?_; (case ho => rfl); (case hg => rfl); (case hn => rfl); (case hr => exact gs_); intro w11 hw; have hg : wr.grownBy w11 (some go9) := (by rw [hw]; exact HP10.2); have hp_ : Kd.R (Kd.int .u8) 5 w11 w.heap.size (fun _ => True) (.slice (some ⟨go9, 0, none⟩) x3_1.length co9) y276 := (by rw [hw, Ny276.out]; exact HP10.1); clear HP10; replace HO_3 := Aside0.mk (hp_); replace HB := Aside0.mk ((by rw [hw]; exact below_set (HB.out) GB9.out : Below w.heap.size w w11)); clear hg hw hp_))
        go_roundg k1
        case measure => have := HK1.out; omega
        case rel => exact ⟨(y276), (wrap64 (x4_1 + 1)), (by first | rfl | (simp; done) | (simp [*]; done)), H', ⟨by have := HK1.out; omega⟩, ⟨by (with_reducible repeat first | apply kr1_ | apply kr2_ | apply kr3_); exact HO_3.out⟩, ⟨by repeat (first | (with_reducible first | exact HB.out | apply below_alloc | apply pw_below_drewN | apply below_drew1) | exact HB.out)⟩⟩
       ·rw [if_neg c8] at H
        exact absurd H (by simp)
      ·rw [if_neg c7] at H
       exact absurd H (by simp)
     ·rw [if_neg c6] at H
      have c6b0 : decide (x4_1 < (l0.length : Int)) = false := decide_eq_false c6
      clear c6
      obtain rfl := Option.some.inj H
      go_wp2
      go_ret
      exact ⟨_, er_, by (with_reducible repeat first | apply kr1_ | apply kr2_ | apply kr3_); exact HO_3.out, by repeat (first | (with_reducible first | exact HB.out | apply below_alloc | apply pw_below_drewN | apply below_drew1) | exact HB.out)⟩
  ·rw [if_neg c3] at H
   exact absurd H (by simp)
 ·rw [if_neg c2] at H
  exact absurd H (by simp)
end Go.Proofs.Ytmkcbbbknbahgaa.P
namespace Go.Proofs.Ytmkcbbbknbahgaa.P
open Go.RowKit Go.Proofs.YtmkcbbbknbahgaaW.PrintWords Go.Proofs.YtmkcbbbknbahgaaW.PrintLast Go.Proofs.YtmkcbbbknbahgaaW.PrintMore
attribute [local go_sem] max2_int min2_int max_two min_two max_three min_three max_four min_four   -- for this text's walks alone
set_option linter.unusedVariables false
set_option linter.unusedSimpArgs false

def laws_toByteSS.l0 : Nat → List (List Int) → List (List Int) → Int → Option ((List (List Int)))
 | 0, _, _, _ => none
 | k + 1, x0, x3, x4 => if x4 < (x0.length : Int) then (if 0 ≤ x4 then ((laws_toByteS.f k (rd_L1 x0 x4)).bind fun t281 => (if x4 < (x3.length : Int) then (laws_toByteSS.l0 k x0 (x3.set (x4 : Int).toNat t281) (wrap64 (x4 + 1))) else (none))) else (none)) else (some x3)

def laws_toByteSS.f (k : Nat) (l0 : List (List Int)) : Option ((List (List Int))) := if 0 ≤ (l0.length : Int) then (if ((l0.length : Int) : Int).toNat ≤ 11728124029610 then (laws_toByteSS.l0 k l0 (List.replicate ((l0.length : Int) : Int).toNat []) 0) else (none)) else (none)

set_option maxHeartbeats 8000000 in
set_option maxRecDepth 100000 in
theorem laws_toByteSS.calls (k : Nat) (A0 : Option Addr) (c0 : Nat) (l0 : List (List Int)) (r : List (List Int)) (w : World) (hr0 : Kd.C (Kd.slice 5 (Kd.int .u8)) w A0 l0.length l0) (hc0 : l0.length ≤ c0) (h : laws_toByteSS.f k l0 = some r) :
  Calls Try.prog 120 #[.slice A0 l0.length c0] w fun e w' => ∃ v0_ : Value, e = .returned (v0_) ∧ Kd.S (Kd.slice 5 (Kd.int .u8)) 29 w' w.heap.size (fun _ => True) v0_ r ∧ Below w.heap.size w w' := by
 have HR0 := Aside0.mk hr0
 have HC0 := Aside0.mk hc0
 clear hr0 hc0
 have HB := Aside0.mk (Below.refl w.heap.size w)
 have H : (if 0 ≤ (l0.length : Int) then (if ((l0.length : Int) : Int).toNat ≤ 11728124029610 then (laws_toByteSS.l0 k l0 (List.replicate ((l0.length : Int) : Int).toNat []) 0) else (none)) else (none)) = some r := h
 clear h
 by_cases c2 : 0 ≤ (l0.length : Int)
 ·rw [if_pos c2] at H
  have c2b0 := eq_true c2
  have c2b1 : decide (0 ≤ (l0.length : Int)) = true := decide_eq_true c2
  clear c2
  by_cases c3 : ((l0.length : Int) : Int).toNat ≤ 11728124029610
  ·rw [if_pos c3] at H
   have c3b0 := eq_true c3
   have c3b1 : decide (((l0.length : Int) : Int).toNat ≤ 11728124029610) = true := decide_eq_true c3
   clear c3
   obtain ⟨y277, hy277⟩ : ∃ y_ : List (List Int), y_ = (List.replicate ((l0.length : Int) : Int).toNat []) := ⟨_, rfl⟩
   replace H : (laws_toByteSS.l0 k l0 y277 0) = some r := by first | (rw [hy277]; with_reducible exact H) | (have H2_ := (Option.bind_some _ _).symm.trans H; rw [hy277]; with_reducible exact H2_) | (have H2_ := (Option.bind_some _ _).symm.trans H; with_reducible exact H2_) | with_reducible exact H | (rw [hy277]; exact H) | exact H
   have Ny277 := Aside0.mk hy277
   clear hy277
   have H' := Aside0.mk H
   clear H
   go_enter Try.func120, Try.ntmps120
   go_wp2_with (first | ((with_reducible refine gate_dst (N := 7) rfl ?_); refine Kd.S_make (Kd.slice 5 (Kd.int .u8)) _ 29 rfl (N := 7) rfl 22 _ _ rfl (l0.length : Int) rfl rfl Try.underlying22 (.slice none 0 0) 24 info29 rfl (by decide) (by omega) [] (ok := fun _ => True) (okp := fun _ => True) ⟨_, rfl, Kd.R_nil _ _ _ _ _⟩ (fun _ hk => hk) trivial (of_decide_eq_true as_) (Nat.le_trans (Nat.mul_le_mul_right _ (of_decide_eq_true as_ : (l0.length : Int).toNat ≤ 11728124029610)) (by omega)) (Below.refl _ _) (Nat.le_refl _) ?_; intro v278 w4 ho5 hb hg_ hnew_; clear hg_ hnew_; (first | rw [← Ny277.out] at ho5 | (simp only [Int.reduceToNat] at ho5; rw [← Ny277.out] at ho5)); have HO279 := Aside0.mk (sL_ ho5 HB); replace HB := Aside0.mk (below_step (by repeat (first | (with_reducible first | exact HB.out | apply ba_ | apply bn_ | apply bd_) | exact HB.out)) hb); clear hb ho5))
   go_loopg [4] k (fun kq v4 w' => ∃ (x3_1 : List (List Int)) (x4_1 : Int), v4 = .int .i64 x4_1 ∧ Aside0 (laws_toByteSS.l0 kq l0 x3_1 x4_1 = some r) ∧ Aside0 (kq ≤ k) ∧ Aside0 (Kd.S (Kd.slice 5 (Kd.int .u8)) 29 w' w.heap.size (fun _ => True) v278 x3_1) ∧ Aside0 (Below w.heap.size w w'))
   case atStart => exact ⟨(y277), (0), (by first | rfl | (simp; done) | (simp [*]; done)), H', ⟨Nat.le_refl _⟩, ⟨by (with_reducible repeat first | apply ks1_ | apply ks2_ | apply ks3_); exact HO279.out⟩, ⟨by repeat (first | (with_reducible first | exact HB.out | apply below_alloc | apply pw_below_drewN | apply below_drew1) | exact HB.out)⟩⟩
   case round =>
    clear H'
    try clear c1
    try clear c2
    try clear c2b0
    try clear c2b1
    try clear p2
    try clear c3
    try clear c3b0
    try clear c3b1
    obtain ⟨x3_1, x4_1, rfl, HA, HK1, HO_3, HB⟩ := hrel
    cases gk with
    | zero => exact absurd HA.out (by simp [laws_toByteSS.l0])
    | succ k1 =>
     have H := HA.out
     clear HA
     simp only [laws_toByteSS.l0] at H
     by_cases c6 : x4_1 < (l0.length : Int)
     ·rw [if_pos c6] at H
      have c6b0 : decide (x4_1 < (l0.length : Int)) = true := decide_eq_true c6
      clear c6
      by_cases c7 : 0 ≤ x4_1
      ·rw [if_pos c7] at H
       have c7b0 : decide (0 ≤ x4_1) = true := decide_eq_true c7
       clear c7
       replace H := Option.bind_eq_some_iff.mp H
       obtain ⟨t281, A80, H⟩ := H
       replace H : (if x4_1 < (x3_1.length : Int) then (laws_toByteSS.l0 k1 l0 (x3_1.set (x4_1 : Int).toNat t281) (wrap64 (x4_1 + 1))) else (none)) = some r := H
       have A8 := Aside0.mk A80
       clear A80
       by_cases c9 : x4_1 < (x3_1.length : Int)
       ·rw [if_pos c9] at H
        have c9b0 : decide (x4_1 < (x3_1.length : Int)) = true := decide_eq_true c9
        clear c9
        obtain ⟨y284, hy284⟩ : ∃ y_ : List (List Int), y_ = (x3_1.set (x4_1 : Int).toNat t281) := ⟨_, rfl⟩
        replace H : (laws_toByteSS.l0 k1 l0 y284 (wrap64 (x4_1 + 1))) = some r := by first | (rw [hy284]; with_reducible exact H) | (have H2_ := (Option.bind_some _ _).symm.trans H; rw [hy284]; with_reducible exact H2_) | (have H2_ := (Option.bind_some _ _).symm.trans H; with_reducible exact H2_) | with_reducible exact H | (rw [hy284]; exact H) | exact H
        have Ny284 := Aside0.mk hy284
        clear hy284
        have H' := Aside0.mk H
        clear H
        have p280 : 0 ≤ (x4_1 : Int) := of_decide_eq_true as_
        have q280 : x4_1 < (l0.length : Int) := of_decide_eq_true as_
        obtain ⟨ad280, A280_0, c280_0, e280, hx280_0, hl280_0, hi280_0⟩ := at_L1 HR0.out x4_1 p280 q280
        cases e280
        replace hx280_0 := (HB.out.cell (World.block_lt_of_cell? w _ hx280_0)).trans hx280_0
        have HR280_0 := Aside0.mk hi280_0
        have HC280_0 := Aside0.mk hl280_0
        clear hi280_0 hl280_0
        replace p280 := eq_true p280
        replace q280 := eq_true q280
        go_wp2_with (first | ((with_reducible refine gate_callee (f := 16) rfl ?_); refine goesL_ (some 20) rfl rfl Try.func16 (by kernel_rfl) rfl #[.slice A280_0 (rd_L1 l0 x4_1).length c280_0] rfl ar_ ?_; (with_reducible refine (laws_toByteS.calls k1 _ _ (rd_L1 l0 x4_1) t281 _ ?side1 ?side2 A8.out).mono ?_); (case side1 => exact cS_ (Kd.C_below HR280_0.out HB.out)); (case side2 => exact HC280_0.out); rintro e w11 ⟨v282, rfl, ho0, hb⟩; refine ⟨_, rfl, ?_⟩; replace HO_3 := Aside0.mk (Kd.S_elder' (sK_ HO_3) (Kd.R_base ho0) hb); have HO283 := Aside0.mk (rL_ ho0 HB); replace HB := Aside0.mk (below_step (by repeat (first | (with_reducible first | exact HB.out | apply ba_ | apply bn_ | apply bd_) | exact HB.out)) hb); (try clear hb); (try clear hb2); (try clear hk); (try clear hi); (try clear ho0); have p10 : 0 ≤ (x4_1 : Int) := of_decide_eq_true as_; have q10 : (x4_1 : Int) < ((x3_1.length : Int) : Int) := of_decide_eq_true as_; obtain ⟨go10, co10, eo10, gb10, gl10, cl10, HG10⟩ := Kd.S_form HO_3.out (by omega); (first | cases eo10 | (injection eo10 with ea_ en_ ec_; (first | subst ea_ | (injection ea_ with ea_; subst ea_)); subst ec_; clear en_)); have GB10 := Aside0.mk gb10; have GG10 := Aside0.mk HG10; clear gb10 gl10 HG10; obtain ⟨_, ce10, hcl10, hM10, hcc10, hfr10, _, _⟩ := Kd.S_elem HO_3.out [] (x4_1 : Int) p10 q10; obtain ⟨ve10_0, rfl, ge10_0⟩ := hM10; have hx10_0 := hcc10 0 _ rfl; have hf10_0 := hfr10 0; (try simp only [show ((Kd.slice 5 (Kd.int .u8))).sz = 1 from rfl, Nat.mul_one, Nat.add_zero] at hx10_0); (try simp only [show ((Kd.slice 5 (Kd.int .u8))).sz = 1 from rfl, Nat.mul_one, Nat.add_zero] at hf10_0); clear hcl10 hcc10 hfr10; (try clear hM10); replace p10 := eq_true p10; replace q10 := eq_true q10; have n_ := Aside0.mk (Kd.S_mono (ok' := (fun k_ => some k_ ≠ (v282 : Value).ownBlock)) HO_3.out (fun k_ hk => hk.2)); clear HO_3; have HO_3 := n_; clear n_; have HX12 := Aside0.mk (show Kd.S (Kd.slice 5 (Kd.int .u8)) 29 w11 w.heap.size (fun k_ => ((fun _ => True)) k_ ∧ ¬ ((fun k_ => some k_ = (v282 : Value).ownBlock)) k_) (.slice (some ⟨go10, 0, none⟩) x3_1.length co10) x3_1 from (by (with_reducible repeat first | apply ks1_ | apply ks2_ | apply ks3_); exact Kd.S_mono HO_3.out (fun k_ hk => ⟨trivial, fun e_ => hk e_⟩))); obtain ⟨oki12, ce12, hcl12, hM12, hcc12, hfr12, hoki12, hH12⟩ := Kd.S_elem HX12.out [] (x4_1 : Int) (of_decide_eq_true as_) (by have h_ : (x4_1 : Int) < ((x3_1.length : Int) : Int) := of_decide_eq_true as_; first | exact h_ | (have e_ := (Kd.S_reads' HO_3.out).1; omega) | simpa using h_); obtain ⟨ve12_0, rfl, ge12_0⟩ := hM12; have HP12 := Kd.S_seg hH12 (of_decide_eq_true as_) (by have h_ : (x4_1 : Int) < ((x3_1.length : Int) : Int) := of_decide_eq_true as_; first | exact h_ | (have e_ := (Kd.S_reads' HO_3.out).1; omega) | simpa using h_) (seg := [v282]) (j := 0) (show 1 ≤ 1 from by decide) (x' := t281) (Kd.M_row (Kd.R_mono (Kd.R_tight rfl (Kd.R_mono (ok' := fun k_ => ((fun _ => True)) k_ ∧ k_ ≠ go10) (Kd.R_apart' (HO283.out) (Kd.S_typed HO_3.out) (by decide)) (fun k_ hk => ⟨trivial, fun e_ => (hk.2) (by rw [e_]; rfl)⟩))) (fun _ h_ => Or.inr (h_)))) (fun _ hk => hk) (fun k_ hk_ => ((Kd.R_mono (ok' := fun k_ => ((fun _ => True)) k_ ∧ k_ ≠ go10) (Kd.R_apart' (HO283.out) (Kd.S_typed HO_3.out) (by decide)) (fun k_ hk => ⟨trivial, fun e_ => (hk.2) (by rw [e_]; rfl)⟩))).1 k_ hk_.symm); have hx12_0 := hcc12 0 _ rfl; (try simp only [show ((Kd.slice 5 (Kd.int .u8))).sz = 1 from rfl, Nat.mul_one, Nat.add_zero] at hx12_0); have hf12_0 := hfr12 0; (try simp only [show ((Kd.slice 5 (Kd.int .u8))).sz = 1 from rfl, Nat.mul_one, Nat.add_zero] at hf12_0); clear hcl12 hcc12 hfr12 hoki12 hH12; (try clear hM12); (try simp only [show ((Kd.slice 5 (Kd.int .u8))).sz = 1 from rfl, Nat.mul_one, Nat.add_zero] at HP12)) | ((with_reducible refine gate_store (t := 29) (p := 21) rfl ?_); refine store_event (t := 29) (p := 21) (v := ?vo_w13) (w1 := (w11.setCell ⟨go10, (x4_1 : Int).toNat, none⟩ (v282))) ?hg ?ho ?hn ?hr ?_; (case ho => rfl); (case hg => rfl); (case hn => rfl); (case hr => first | (go_simp; done) | (go_simp; rfl) | (obtain ⟨A_, c_, hv_⟩ := Kd.R_slice HO283.out; subst hv_; first | (go_simp; done) | (go_simp; rfl)) | (obtain ⟨A_, c_, hv_⟩ := Kd.S_slice HO283.out; subst hv_; first | (go_simp; done) | (go_simp; rfl))); intro w13 hw; have hg : w11.grownBy w13 (some go10) := (by rw [hw]; exact HP12.2); have hp_ : Kd.S (Kd.slice 5 (Kd.int .u8)) 29 w13 w.heap.size (fun _ => True) (.slice (some ⟨go10, 0, none⟩) x3_1.length co10) y284 := (by rw [hw, Ny284.out]; exact HP12.1); clear HP12; replace HO_3 := Aside0.mk (hp_); replace HB := Aside0.mk ((by rw [hw]; exact below_set (HB.out) GB10.out : Below w.heap.size w w13)); clear HO283; clear hg hw hp_))
        go_roundg k1
        case measure => have := HK1.out; omega
        case rel => exact ⟨(y284), (wrap64 (x4_1 + 1)), (by first | rfl | (simp; done) | (simp [*]; done)), H', ⟨by have := HK1.out; omega⟩, ⟨by (with_reducible repeat first | apply ks1_ | apply ks2_ | apply ks3_); exact HO_3.out⟩, ⟨by repeat (first | (with_reducible first | exact HB.out | apply below_alloc | apply pw_below_drewN | apply below_drew1) | exact HB.out)⟩⟩
       ·rw [if_neg c9] at H
        exact absurd H (by simp)
      ·rw [if_neg c7] at H
       exact absurd H (by simp)
     ·rw [if_neg c6] at H
      have c6b0 : decide (x4_1 < (l0.length : Int)) = false := decide_eq_false c6
      clear c6
      obtain rfl := Option.some.inj H
      go_wp2
      go_ret
      exact ⟨_, er_, by (with_reducible repeat first | apply ks1_ | apply ks2_ | apply ks3_); exact HO_3.out, by repeat (first | (with_reducible first | exact HB.out | apply below_alloc | apply pw_below_drewN | apply below_drew1) | exact HB.out)⟩
  ·rw [if_neg c3] at H
   exact absurd H (by simp)
 ·rw [if_neg c2] at H
  exact absurd H (by simp)
end Go.Proofs.Ytmkcbbbknbahgaa.P
namespace Go.Proofs.Ytmkcbbbknbahgaa.P
open Go.RowKit Go.Proofs.YtmkcbbbknbahgaaW.PrintWords Go.Proofs.YtmkcbbbknbahgaaW.PrintLast Go.Proofs.YtmkcbbbknbahgaaW.PrintMore
attribute [local go_sem] max2_int min2_int max_two min_two max_three min_three max_four min_four   -- for this text's walks alone
set_option linter.unusedVariables false
set_option linter.unusedSimpArgs false

def laws_toMemory.f (k : Nat) (l0_0 : List (List Int)) : Option ((List (List Int))) := (laws_toByteSS.f k l0_0).bind fun t288 => (some t288)

set_option maxHeartbeats 8000000 in
set_option maxRecDepth 100000 in
theorem laws_toMemory.calls (k : Nat) (A0_0 : Option Addr) (c0_0 : Nat) (l0_0 : List (List Int)) (r : List (List Int)) (w : World) (hr0_0 : Kd.C (Kd.slice 5 (Kd.int .u8)) w A0_0 l0_0.length l0_0) (hc0_0 : l0_0.length ≤ c0_0) (h : laws_toMemory.f k l0_0 = some r) :
  Calls Try.prog 58 #[.agg #[.slice A0_0 l0_0.length c0_0]] w fun e w' => ∃ v0_ : Value, e = .returned (.agg #[v0_]) ∧ Kd.S (Kd.slice 5 (Kd.int .u8)) 29 w' w.heap.size (fun _ => True) v0_ r ∧ Below w.heap.size w w' := by
 have hu24 := Try.underlying24
 have hu31 := Try.underlying31
 have HR0_0 := Aside0.mk hr0_0
 have HC0_0 := Aside0.mk hc0_0
 clear hr0_0 hc0_0
 have HB := Aside0.mk (Below.refl w.heap.size w)
 have H : ((laws_toByteSS.f k l0_0).bind fun t288 => (some t288)) = some r := h
 clear h
 replace H := Option.bind_eq_some_iff.mp H
 obtain ⟨t288, A20, H⟩ := H
 replace H : (some t288) = some r := H
 have A2 := Aside0.mk A20
 clear A20
 obtain rfl := Option.some.inj H
 go_enter Try.func58, Try.ntmps58
 go_wp2_with (first | ((with_reducible refine gate_dst (N := 1) rfl ?_); refine box_event ?hg (N := 1) ?hd (cs := #[.slice A0_0 l0_0.length c0_0]) (t := 24) ?hr ?_; (case hd => rfl); (case hg => rfl); (case hr => exact gs_); intro gb285 hg w3 hbox hb; have BK285 := Aside0.mk (hbox); have GW285 := gE_ HB hg; have GE285 := gE_ HB hg; replace HB := Aside0.mk (below_step (by repeat (first | (with_reducible first | exact HB.out | apply ba_ | apply bn_ | apply bd_) | exact HB.out)) hb); clear hb hbox hg) | ((with_reducible refine gate_dst (N := 2) rfl ?_); refine box_event ?hg (N := 2) ?hd (cs := #[.slice none 0 0]) (t := 31) ?hr ?_; (case hd => rfl); (case hg => rfl); (case hr => exact gs_); intro gb286 hg w4 hbox hb; have BK286 := Aside0.mk (hbox); have GW286 := gE_ HB hg; have GE286 := gE_ HB hg; replace HB := Aside0.mk (below_step (by repeat (first | (with_reducible first | exact HB.out | apply ba_ | apply bn_ | apply bd_ | refine bset_ ?_ (by assumption)) | exact HB.out)) hb); have NB285_286 := nB_ BK285 hg; have NB286_285 := nA_ BK285 hg; replace BK285 := bB_ BK285 hb; clear hb hbox hg) | ((with_reducible refine gate_dst (N := 3) rfl ?_); refine box_event ?hg (N := 3) ?hd (cs := #[.slice none 0 0]) (t := 31) ?hr ?_; (case hd => rfl); (case hg => rfl); (case hr => exact gs_); intro gb287 hg w5 hbox hb; have BK287 := Aside0.mk (hbox); have GW287 := gE_ HB hg; have GE287 := gE_ HB hg; replace HB := Aside0.mk (below_step (by repeat (first | (with_reducible first | exact HB.out | apply ba_ | apply bn_ | apply bd_ | refine bset_ ?_ (by assumption)) | exact HB.out)) hb); have NB285_287 := nB_ BK285 hg; have NB287_285 := nA_ BK285 hg; replace BK285 := bB_ BK285 hb; have NB286_287 := nB_ BK286 hg; have NB287_286 := nA_ BK286 hg; replace BK286 := bB_ BK286 hb; clear hb hbox hg; have hnb6 := NB285_286.out; have hnc6 := NB286_285.out; have hnb7 := NB285_287.out; have hnc7 := NB287_285.out; obtain ⟨hcz8_0, hfz8_0⟩ := zc1_ BK285) | ((with_reducible refine gate_callee (f := 120) rfl ?_); refine goesL_ (some 6) rfl rfl Try.func120 (by kernel_rfl) rfl #[.slice A0_0 l0_0.length c0_0] rfl ar_ ?_; (with_reducible refine (laws_toByteSS.calls k _ _ l0_0 t288 _ ?side1 ?side2 A2.out).mono ?_); (case side1 => exact cS_ (Kd.C_below HR0_0.out HB.out)); (case side2 => exact HC0_0.out); rintro e w9 ⟨v289, rfl, ho0, hb⟩; refine ⟨_, rfl, ?_⟩; have HO290 := Aside0.mk (sL_ ho0 HB); replace BK285 := bB_ BK285 hb; replace BK286 := bB_ BK286 hb; replace BK287 := bB_ BK287 hb; replace HB := Aside0.mk (below_step (by repeat (first | (with_reducible first | exact HB.out | apply ba_ | apply bn_ | apply bd_ | refine bset_ ?_ (by assumption)) | exact HB.out)) hb); (try clear hb); (try clear hb2); (try clear hk); (try clear hi); (try clear ho0); obtain ⟨Ao10, co10, eo10⟩ := Kd.S_slice HO290.out; subst eo10; have hnb11 := NB287_286.out; have hnc11 := NB286_287.out; obtain ⟨hcz12_0, hfz12_0⟩ := zc1_ BK287; obtain ⟨hcz13_0, hfz13_0⟩ := zc1_ BK286))
 refine bodyPost_ret (results_cell_row rfl _ _ gb286 31 #[.slice Ao10 t288.length co10] (0, 0) _ rfl (by exact fB_ BK286) Try.underlying31 rfl (by kernel_rfl)) rfl ?_
 exact ⟨_, er_, by (with_reducible repeat first | apply ks1_ | apply ks2_ | apply ks3_); exact Kd.S_mono (sf1_ gb286 (sf1_ gb287 (Kd.S_types (Kd.S_types HO290.out BK287.out (by decide)) BK286.out (by decide)) (fun _ hk => hk.1.2)) (fun _ hk => hk.2)) (fun _ hk => trivial), by repeat (first | (with_reducible first | exact HB.out | apply below_alloc | apply pw_below_drewN | apply below_drew1 | refine below_set ?_ GE285.out | refine below_set ?_ GE286.out | refine below_set ?_ GE287.out) | exact HB.out)⟩
end Go.Proofs.Ytmkcbbbknbahgaa.P
namespace Go.Proofs.Ytmkcbbbknbahgaa.P
open Go.RowKit Go.Proofs.YtmkcbbbknbahgaaW.PrintWords Go.Proofs.YtmkcbbbknbahgaaW.PrintLast Go.Proofs.YtmkcbbbknbahgaaW.PrintMore
attribute [local go_sem] max2_int min2_int max_two min_two max_three min_three max_four min_four   -- for this text's walks alone
set_option linter.unusedVariables false
set_option linter.unusedSimpArgs false

def laws_toWindow.f (a0_0 : Int) (a0_1 : Int) (a0_2 : Int) (a0_3 : Int) : Option (Int × Int × Int × Int) := some (a0_0, a0_1, a0_2, a0_3)

set_option maxHeartbeats 8000000 in
set_option maxRecDepth 100000 in
theorem laws_toWindow.calls (a0_0 : Int) (a0_1 : Int) (a0_2 : Int) (a0_3 : Int) (r1 : Int) (r2 : Int) (r3 : Int) (r4 : Int) (w : World) (h : laws_toWindow.f a0_0 a0_1 a0_2 a0_3 = some (r1, r2, r3, r4)) :
  Calls Try.prog 85 #[.agg #[.int .i64 a0_0, .int .i64 a0_1, .int .i64 a0_2, .int .i64 a0_3]] w fun e w' => e = .returned (.agg #[.int .i64 r1, .int .i64 r2, .int .i64 r3, .int .i64 r4]) ∧ Below w.heap.size w w' := by
 have hu26 := Try.underlying26
 have hu32 := Try.underlying32
 have HB := Aside0.mk (Below.refl w.heap.size w)
 have H : (some (a0_0, a0_1, a0_2, a0_3)) = some (r1, r2, r3, r4) := h
 clear h
 simp only [Option.some.injEq, Prod.mk.injEq] at H
 obtain ⟨rfl, rfl, rfl, rfl⟩ := H
 go_enter Try.func85, Try.ntmps85
 go_wp2_with (first | ((with_reducible refine gate_dst (N := 1) rfl ?_); refine box_event ?hg (N := 1) ?hd (cs := #[.int .i64 a0_0, .int .i64 a0_1, .int .i64 a0_2, .int .i64 a0_3]) (t := 26) ?hr ?_; (case hd => rfl); (case hg => rfl); (case hr => exact gs_); intro gb291 hg w2 hbox hb; have BK291 := Aside0.mk (hbox); have GW291 := gE_ HB hg; have GE291 := gE_ HB hg; replace HB := Aside0.mk (below_step (by repeat (first | (with_reducible first | exact HB.out | apply ba_ | apply bn_ | apply bd_) | exact HB.out)) hb); clear hb hbox hg) | ((with_reducible refine gate_dst (N := 2) rfl ?_); refine box_event ?hg (N := 2) ?hd (cs := #[.int .i64 0, .int .i64 0, .int .i64 0, .int .i64 0]) (t := 32) ?hr ?_; (case hd => rfl); (case hg => rfl); (case hr => exact gs_); intro gb292 hg w3 hbox hb; have BK292 := Aside0.mk (hbox); have GW292 := gE_ HB hg; have GE292 := gE_ HB hg; replace HB := Aside0.mk (below_step (by repeat (first | (with_reducible first | exact HB.out | apply ba_ | apply bn_ | apply bd_ | refine bset_ ?_ (by assumption)) | exact HB.out)) hb); have NB291_292 := nB_ BK291 hg; have NB292_291 := nA_ BK291 hg; replace BK291 := bB_ BK291 hb; clear hb hbox hg) | ((with_reducible refine gate_dst (N := 3) rfl ?_); refine box_event ?hg (N := 3) ?hd (cs := #[.int .i64 0, .int .i64 0, .int .i64 0, .int .i64 0]) (t := 32) ?hr ?_; (case hd => rfl); (case hg => rfl); (case hr => exact gs_); intro gb293 hg w4 hbox hb; have BK293 := Aside0.mk (hbox); have GW293 := gE_ HB hg; have GE293 := gE_ HB hg; replace HB := Aside0.mk (below_step (by repeat (first | (with_reducible first | exact HB.out | apply ba_ | apply bn_ | apply bd_ | refine bset_ ?_ (by assumption)) | exact HB.out)) hb); have NB291_293 := nB_ BK291 hg; have NB293_291 := nA_ BK291 hg; replace BK291 := bB_ BK291 hb; have NB292_293 := nB_ BK292 hg; have NB293_292 := nA_ BK292 hg; replace BK292 := bB_ BK292 hb; clear hb hbox hg; have hnb5 := NB291_292.out; have hnc5 := NB292_291.out; have hnb6 := NB291_293.out; have hnc6 := NB293_291.out; obtain ⟨hcz7_0, hcz7_1, hcz7_2, hcz7_3, hfz7_0, hfz7_1, hfz7_2, hfz7_3⟩ := zc4_ BK291; have hnb8 := NB293_292.out; have hnc8 := NB292_293.out; obtain ⟨hcz9_0, hcz9_1, hcz9_2, hcz9_3, hfz9_0, hfz9_1, hfz9_2, hfz9_3⟩ := zc4_ BK293; obtain ⟨hcz10_0, hcz10_1, hcz10_2, hcz10_3, hfz10_0, hfz10_1, hfz10_2, hfz10_3⟩ := zc4_ BK292))
 refine bodyPost_ret (results_cell_row rfl _ _ gb292 32 #[.int .i64 a0_0, .int .i64 a0_1, .int .i64 a0_2, .int .i64 a0_3] (0, 0) _ rfl (by exact fB_ BK292) Try.underlying32 rfl (by kernel_rfl)) rfl ?_
 exact ⟨er_, by repeat (first | (with_reducible first | exact HB.out | apply below_alloc | apply pw_below_drewN | apply below_drew1 | refine below_set ?_ GE291.out | refine below_set ?_ GE292.out | refine below_set ?_ GE293.out) | exact HB.out)⟩
end Go.Proofs.Ytmkcbbbknbahgaa.P
namespace Go.Proofs.Ytmkcbbbknbahgaa.P
open Go.RowKit Go.Proofs.YtmkcbbbknbahgaaW.PrintWords Go.Proofs.YtmkcbbbknbahgaaW.PrintLast Go.Proofs.YtmkcbbbknbahgaaW.PrintMore
attribute [local go_sem] max2_int min2_int max_two min_two max_three min_three max_four min_four   -- for this text's walks alone
set_option linter.unusedVariables false
set_option linter.unusedSimpArgs false

def laws_toArena.f (k : Nat) (l0_0 : List (List Int)) (a0_1 : Int) (a0_2 : Int) (a0_3 : Int) (a0_4 : Int) (a0_5 : Int) (l0_6 : List Int) : Option ((List (List Int)) × Int × Int × Int × Int × Int × List Int) := (laws_toMemory.f k l0_0).bind fun t750 => ((laws_toWindow.f a0_1 a0_2 a0_3 a0_4).bind fun bt753 => ((laws_toIntS.f k l0_6).bind fun t757 => (some (t750, bt753.1, bt753.2.1, bt753.2.2.1, bt753.2.2.2, a0_5, t757))))

set_option maxHeartbeats 8000000 in
set_option maxRecDepth 100000 in
theorem laws_toArena.calls (k : Nat) (A0_0 : Option Addr) (c0_0 : Nat) (l0_0 : List (List Int)) (a0_1 : Int) (a0_2 : Int) (a0_3 : Int) (a0_4 : Int) (a0_5 : Int) (A0_6 : Option Addr) (c0_6 : Nat) (l0_6 : List Int) (r1 : List (List Int)) (r2 : Int) (r3 : Int) (r4 : Int) (r5 : Int) (r6 : Int) (r7 : List Int) (w : World) (hr0_0 : Kd.C (Kd.slice 5 (Kd.int .u8)) w A0_0 l0_0.length l0_0) (hc0_0 : l0_0.length ≤ c0_0) (hr0_6 : Kd.C (Kd.int .i64) w A0_6 l0_6.length l0_6) (hc0_6 : l0_6.length ≤ c0_6) (h : laws_toArena.f k l0_0 a0_1 a0_2 a0_3 a0_4 a0_5 l0_6 = some (r1, r2, r3, r4, r5, r6, r7)) :
  Calls Try.prog 37 #[.agg #[.slice A0_0 l0_0.length c0_0, .int .i64 a0_1, .int .i64 a0_2, .int .i64 a0_3, .int .i64 a0_4, .int .i64 a0_5, .slice A0_6 l0_6.length c0_6]] w fun e w' => ∃ v0_ v6_ : Value, e = .returned (.agg #[v0_, .int .i64 r2, .int .i64 r3, .int .i64 r4, .int .i64 r5, .int .i64 r6, v6_]) ∧ Kd.S (Kd.slice 5 (Kd.int .u8)) 29 w' w.heap.size (fun _ => True) v0_ r1 ∧ Kd.R (Kd.int .i64) 3 w' w.heap.size (fun _ => True) v6_ r7 ∧ Below w.heap.size w w' := by
 have hu65 := Try.underlying65
 have hu70 := Try.underlying70
 have hu24 := Try.underlying24
 have hu31 := Try.underlying31
 have hu26 := Try.underlying26
 have hu32 := Try.underlying32
 have HR0_0 := Aside0.mk hr0_0
 have HC0_0 := Aside0.mk hc0_0
 clear hr0_0 hc0_0
 have HR0_6 := Aside0.mk hr0_6
 have HC0_6 := Aside0.mk hc0_6
 clear hr0_6 hc0_6
 have HB := Aside0.mk (Below.refl w.heap.size w)
 have H : ((laws_toMemory.f k l0_0).bind fun t750 => ((laws_toWindow.f a0_1 a0_2 a0_3 a0_4).bind fun bt753 => ((laws_toIntS.f k l0_6).bind fun t757 => (some (t750, bt753.1, bt753.2.1, bt753.2.2.1, bt753.2.2.2, a0_5, t757))))) = some (r1, r2, r3, r4, r5, r6, r7) := h
 clear h
 replace H := Option.bind_eq_some_iff.mp H
 obtain ⟨t750, A20, H⟩ := H
 replace H : ((laws_toWindow.f a0_1 a0_2 a0_3 a0_4).bind fun bt753 => ((laws_toIntS.f k l0_6).bind fun t757 => (some (t750, bt753.1, bt753.2.1, bt753.2.2.1, bt753.2.2.2, a0_5, t757)))) = some (r1, r2, r3, r4, r5, r6, r7) := H
 have A2 := Aside0.mk A20
 clear A20
 replace H := Option.bind_eq_some_iff.mp H
 obtain ⟨⟨t753, t754, t755, t756⟩, A30, H⟩ := H
 replace H : ((laws_toIntS.f k l0_6).bind fun t757 => (some (t750, t753, t754, t755, t756, a0_5, t757))) = some (r1, r2, r3, r4, r5, r6, r7) := H
 have A3 := Aside0.mk A30
 clear A30
 replace H := Option.bind_eq_some_iff.mp H
 obtain ⟨t757, A40, H⟩ := H
 replace H : (some (t750, t753, t754, t755, t756, a0_5, t757)) = some (r1, r2, r3, r4, r5, r6, r7) := H
 have A4 := Aside0.mk A40
 clear A40
 simp only [Option.some.injEq, Prod.mk.injEq] at H
 obtain ⟨rfl, rfl, rfl, rfl, rfl, rfl, rfl⟩ := H
 go_enter Try.func37, Try.ntmps37
 go_wp2_with (first | ((with_reducible refine gate_dst (N := 1) rfl ?_); refine box_event ?hg (N := 1) ?hd (cs := #[.slice A0_0 l0_0.length c0_0, .int .i64 a0_1, .int .i64 a0_2, .int .i64 a0_3, .int .i64 a0_4, .int .i64 a0_5, .slice A0_6 l0_6.length c0_6]) (t := 65) ?hr ?_; (case hd => rfl); (case hg => rfl); (case hr => exact gs_); intro gb747 hg w5 hbox hb; have BK747 := Aside0.mk (hbox); have GW747 := gE_ HB hg; have GE747 := gE_ HB hg; replace HB := Aside0.mk (below_step (by repeat (first | (with_reducible first | exact HB.out | apply ba_ | apply bn_ | apply bd_) | exact HB.out)) hb); clear hb hbox hg) | ((with_reducible refine gate_dst (N := 2) rfl ?_); refine box_event ?hg (N := 2) ?hd (cs := #[.slice none 0 0, .int .i64 0, .int .i64 0, .int .i64 0, .int .i64 0, .int .i64 0, .slice none 0 0]) (t := 70) ?hr ?_; (case hd => rfl); (case hg => rfl); (case hr => exact gs_); intro gb748 hg w6 hbox hb; have BK748 := Aside0.mk (hbox); have GW748 := gE_ HB hg; have GE748 := gE_ HB hg; replace HB := Aside0.mk (below_step (by repeat (first | (with_reducible first | exact HB.out | apply ba_ | apply bn_ | apply bd_ | refine bset_ ?_ (by assumption)) | exact HB.out)) hb); have NB747_748 := nB_ BK747 hg; have NB748_747 := nA_ BK747 hg; replace BK747 := bB_ BK747 hb; clear hb hbox hg) | ((with_reducible refine gate_dst (N := 3) rfl ?_); refine box_event ?hg (N := 3) ?hd (cs := #[.slice none 0 0, .int .i64 0, .int .i64 0, .int .i64 0, .int .i64 0, .int .i64 0, .slice none 0 0]) (t := 70) ?hr ?_; (case hd => rfl); (case hg => rfl); (case hr => exact gs_); intro gb749 hg w7 hbox hb; have BK749 := Aside0.mk (hbox); have GW749 := gE_ HB hg; have GE749 := gE_ HB hg; replace HB := Aside0.mk (below_step (by repeat (first | (with_reducible first | exact HB.out | apply ba_ | apply bn_ | apply bd_ | refine bset_ ?_ (by assumption)) | exact HB.out)) hb); have NB747_749 := nB_ BK747 hg; have NB749_747 := nA_ BK747 hg; replace BK747 := bB_ BK747 hb; have NB748_749 := nB_ BK748 hg; have NB749_748 := nA_ BK748 hg; replace BK748 := bB_ BK748 hb; clear hb hbox hg; have hnb8 := NB747_748.out; have hnc8 := NB748_747.out; have hnb9 := NB747_749.out; have hnc9 := NB749_747.out; obtain ⟨hcz10_0, hcz10_1, hcz10_2, hcz10_3, hcz10_4, hcz10_5, hcz10_6, hfz10_0, hfz10_1, hfz10_2, hfz10_3, hfz10_4, hfz10_5, hfz10_6⟩ := zc7_ BK747) | ((with_reducible refine gate_callee (f := 58) rfl ?_); refine goesL_ (some 6) rfl rfl Try.func58 (by kernel_rfl) rfl #[.agg #[.slice A0_0 l0_0.length c0_0]] rfl ar_ ?_; (with_reducible refine (laws_toMemory.calls k _ _ l0_0 t750 _ ?side1 ?side2 A2.out).mono ?_); (case side1 => exact cS_ (Kd.C_below HR0_0.out HB.out)); (case side2 => exact HC0_0.out); rintro e w11 ⟨v751, rfl, ho0, hb⟩; refine ⟨_, rfl, ?_⟩; have HO752 := Aside0.mk (sL_ ho0 HB); replace BK747 := bB_ BK747 hb; replace BK748 := bB_ BK748 hb; replace BK749 := bB_ BK749 hb; replace HB := Aside0.mk (below_step (by repeat (first | (with_reducible first | exact HB.out | apply ba_ | apply bn_ | apply bd_ | refine bset_ ?_ (by assumption)) | exact HB.out)) hb); (try clear hb); (try clear hb2); (try clear hk); (try clear hi); (try clear ho0); obtain ⟨Ao12, co12, eo12⟩ := Kd.S_slice HO752.out; subst eo12; have hnb13 := NB749_748.out; have hnc13 := NB748_749.out; obtain ⟨hcz14_0, hcz14_1, hcz14_2, hcz14_3, hcz14_4, hcz14_5, hcz14_6, hfz14_0, hfz14_1, hfz14_2, hfz14_3, hfz14_4, hfz14_5, hfz14_6⟩ := zc7_ BK749; obtain ⟨hcz15_0, hcz15_1, hcz15_2, hcz15_3, hcz15_4, hcz15_5, hcz15_6, hfz15_0, hfz15_1, hfz15_2, hfz15_3, hfz15_4, hfz15_5, hfz15_6⟩ := zc7_ BK747) | ((with_reducible refine gate_callee (f := 85) rfl ?_); refine goesL_ (some 10) rfl rfl Try.func85 (by kernel_rfl) rfl #[.agg #[.int .i64 a0_1, .int .i64 a0_2, .int .i64 a0_3, .int .i64 a0_4]] rfl ar_ ?_; (with_reducible refine (laws_toWindow.calls a0_1 a0_2 a0_3 a0_4 t753 t754 t755 t756 _ A3.out).mono ?_); rintro e w16 ⟨rfl, hb⟩; refine ⟨_, rfl, ?_⟩; replace HO752 := Aside0.mk (Kd.S_below (by (with_reducible repeat first | apply ks1_ | apply ks2_ | apply ks3_); exact (Kd.S_mono (sf1_ gb749 (Kd.S_types HO752.out BK749.out (by decide)) (fun _ hk => hk.2)) (fun _ h_ => h_.1))) hb); replace BK747 := Aside0.mk (blk_below (g := gb747) (o := .cells #[.slice A0_0 l0_0.length c0_0, .int .i64 a0_1, .int .i64 a0_2, .int .i64 a0_3, .int .i64 a0_4, .int .i64 a0_5, .slice A0_6 l0_6.length c0_6] 65 (0, 0)) (by exact fB_ BK747) hb); replace BK748 := Aside0.mk (blk_below (g := gb748) (o := .cells #[.slice none 0 0, .int .i64 0, .int .i64 0, .int .i64 0, .int .i64 0, .int .i64 0, .slice none 0 0] 70 (0, 0)) (by exact fB_ BK748) hb); replace BK749 := Aside0.mk (blk_below (g := gb749) (o := .cells #[.slice Ao12 t750.length co12, .int .i64 0, .int .i64 0, .int .i64 0, .int .i64 0, .int .i64 0, .slice none 0 0] 70 (0, 0)) (by (with_reducible repeat first | apply kb1_ | apply kb2_ | apply kb3_); refine blk_put (cs := #[.slice none 0 0, .int .i64 0, .int .i64 0, .int .i64 0, .int .i64 0, .int .i64 0, .slice none 0 0]) ?_ 0 _ rfl; (with_reducible repeat first | apply kb1_ | apply kb2_ | apply kb3_); exact BK749.out) hb); replace HB := Aside0.mk (below_step (by repeat (first | (with_reducible first | exact HB.out | apply ba_ | apply bn_ | apply bd_ | refine bset_ ?_ (by assumption)) | exact HB.out)) hb); (try clear hb); (try clear hb2); (try clear hk); (try clear hi); obtain ⟨hcz17_0, hcz17_1, hcz17_2, hcz17_3, hcz17_4, hcz17_5, hcz17_6, hfz17_0, hfz17_1, hfz17_2, hfz17_3, hfz17_4, hfz17_5, hfz17_6⟩ := zc7_ BK749; obtain ⟨hcz18_0, hcz18_1, hcz18_2, hcz18_3, hcz18_4, hcz18_5, hcz18_6, hfz18_0, hfz18_1, hfz18_2, hfz18_3, hfz18_4, hfz18_5, hfz18_6⟩ := zc7_ BK747) | ((with_reducible refine gate_callee (f := 102) rfl ?_); refine goesL_ (some 17) rfl rfl Try.func102 (by kernel_rfl) rfl #[.slice A0_6 l0_6.length c0_6] rfl ar_ ?_; (with_reducible refine (laws_toIntS.calls k _ _ l0_6 t757 _ ?side1 ?side2 A4.out).mono ?_); (case side1 => exact Kd.C_below HR0_6.out (by repeat (first | (with_reducible first | exact HB.out | apply ba_ | apply bn_ | apply bd_ | refine bset_ ?_ (by assumption)) | exact HB.out))); (case side2 => exact HC0_6.out); rintro e w19 ⟨v758, rfl, ho0, hb⟩; refine ⟨_, rfl, ?_⟩; replace HO752 := Aside0.mk (Kd.S_below (by (with_reducible repeat first | apply ks1_ | apply ks2_ | apply ks3_); exact (Kd.S_mono (Kd.S_far (p := ⟨gb749, 5, none⟩) (Kd.S_far (p := ⟨gb749, 4, none⟩) (Kd.S_far (p := ⟨gb749, 3, none⟩) (Kd.S_far (p := ⟨gb749, 2, none⟩) (Kd.S_far (p := ⟨gb749, 1, none⟩) (Kd.S_types HO752.out BK749.out (by decide)) (fun _ hk => hk.2) (.int .i64 t753)) (fun _ hk => hk.2) (.int .i64 t754)) (fun _ hk => hk.2) (.int .i64 t755)) (fun _ hk => hk.2) (.int .i64 t756)) (fun _ hk => hk.2) (.int .i64 a0_5)) (fun _ h_ => h_.1))) hb); have HO759 := Aside0.mk (rL_ ho0 HB); replace BK747 := Aside0.mk (blk_below (g := gb747) (o := .cells #[.slice A0_0 l0_0.length c0_0, .int .i64 a0_1, .int .i64 a0_2, .int .i64 a0_3, .int .i64 a0_4, .int .i64 a0_5, .slice A0_6 l0_6.length c0_6] 65 (0, 0)) (by exact fB_ BK747) hb); replace BK748 := Aside0.mk (blk_below (g := gb748) (o := .cells #[.slice none 0 0, .int .i64 0, .int .i64 0, .int .i64 0, .int .i64 0, .int .i64 0, .slice none 0 0] 70 (0, 0)) (by exact fB_ BK748) hb); replace BK749 := Aside0.mk (blk_below (g := gb749) (o := .cells #[.slice Ao12 t750.length co12, .int .i64 t753, .int .i64 t754, .int .i64 t755, .int .i64 t756, .int .i64 a0_5, .slice none 0 0] 70 (0, 0)) (by (with_reducible repeat first | apply kb1_ | apply kb2_ | apply kb3_); refine blk_put (cs := #[.slice Ao12 t750.length co12, .int .i64 t753, .int .i64 t754, .int .i64 t755, .int .i64 t756, .int .i64 0, .slice none 0 0]) ?_ 5 _ rfl; (with_reducible repeat first | apply kb1_ | apply kb2_ | apply kb3_); refine blk_put (cs := #[.slice Ao12 t750.length co12, .int .i64 t753, .int .i64 t754, .int .i64 t755, .int .i64 0, .int .i64 0, .slice none 0 0]) ?_ 4 _ rfl; (with_reducible repeat first | apply kb1_ | apply kb2_ | apply kb3_); refine blk_put (cs := #[.slice Ao12 t750.length co12, .int .i64 t753, .int .i64 t754, .int .i64 0, .int .i64 0, .int .i64 0, .slice none 0 0]) ?_ 3 _ rfl; (with_reducible repeat first | apply kb1_ | apply kb2_ | apply kb3_); refine blk_put (cs := #[.slice Ao12 t750.length co12, .int .i64 t753, .int .i64 0, .int .i64 0, .int .i64 0, .int .i64 0, .slice none 0 0]) ?_ 2 _ rfl; (with_reducible repeat first | apply kb1_ | apply kb2_ | apply kb3_); refine blk_put (cs := #[.slice Ao12 t750.length co12, .int .i64 0, .int .i64 0, .int .i64 0, .int .i64 0, .int .i64 0, .slice none 0 0]) ?_ 1 _ rfl; (with_reducible repeat first | apply kb1_ | apply kb2_ | apply kb3_); exact BK749.out) hb); replace HB := Aside0.mk (below_step (by repeat (first | (with_reducible first | exact HB.out | apply ba_ | apply bn_ | apply bd_ | refine bset_ ?_ (by assumption)) | exact HB.out)) hb); (try clear hb); (try clear hb2); (try clear hk); (try clear hi); (try clear ho0); obtain ⟨Ao20, co20, eo20⟩ := Kd.R_slice HO759.out; subst eo20; obtain ⟨hcz21_0, hcz21_1, hcz21_2, hcz21_3, hcz21_4, hcz21_5, hcz21_6, hfz21_0, hfz21_1, hfz21_2, hfz21_3, hfz21_4, hfz21_5, hfz21_6⟩ := zc7_ BK749; obtain ⟨hcz22_0, hcz22_1, hcz22_2, hcz22_3, hcz22_4, hcz22_5, hcz22_6, hfz22_0, hfz22_1, hfz22_2, hfz22_3, hfz22_4, hfz22_5, hfz22_6⟩ := zc7_ BK748))
 refine bodyPost_ret (results_cell_row rfl _ _ gb748 70 #[.slice Ao12 t750.length co12, .int .i64 t753, .int .i64 t754, .int .i64 t755, .int .i64 t756, .int .i64 a0_5, .slice Ao20 t757.length co20] (0, 0) _ rfl (by exact fB_ BK748) Try.underlying70 rfl (by kernel_rfl)) rfl ?_
 exact ⟨_, _, er_, by (with_reducible repeat first | apply ks1_ | apply ks2_ | apply ks3_); exact Kd.S_mono (sf7_ gb748 (Kd.S_far (p := ⟨gb749, 6, none⟩) (Kd.S_types (Kd.S_types HO752.out BK749.out (by decide)) BK748.out (by decide)) (fun _ hk => hk.1.2) (.slice Ao20 t757.length co20)) (fun _ hk => hk.2)) (fun _ hk => trivial), by (with_reducible repeat first | apply kr1_ | apply kr2_ | apply kr3_); exact Kd.R_mono (rf7_ gb748 (Kd.R_far (p := ⟨gb749, 6, none⟩) (Kd.R_types (Kd.R_types HO759.out BK749.out (by decide)) BK748.out (by decide)) (fun _ hk => hk.1.2) (.slice Ao20 t757.length co20)) (fun _ hk => hk.2)) (fun _ hk => trivial), by repeat (first | (with_reducible first | exact HB.out | apply below_alloc | apply pw_below_drewN | apply below_drew1 | refine below_set ?_ GE747.out | refine below_set ?_ GE748.out | refine below_set ?_ GE749.out) | exact HB.out)⟩
end Go.Proofs.Ytmkcbbbknbahgaa.P
namespace Go.Proofs.Ytmkcbbbknbahgaa.P
open Go.RowKit Go.Proofs.YtmkcbbbknbahgaaW.PrintWords Go.Proofs.YtmkcbbbknbahgaaW.PrintLast Go.Proofs.YtmkcbbbknbahgaaW.PrintMore
attribute [local go_sem] max2_int min2_int max_two min_two max_three min_three max_four min_four   -- for this text's walks alone
set_option linter.unusedVariables false
set_option linter.unusedSimpArgs false

def laws_toAsked.f (a0_0 : Int) (a0_1 : Int) : Option (Int × Int) := some (a0_0, a0_1)

set_option maxHeartbeats 8000000 in
set_option maxRecDepth 100000 in
theorem laws_toAsked.calls (a0_0 : Int) (a0_1 : Int) (r1 : Int) (r2 : Int) (w : World) (h : laws_toAsked.f a0_0 a0_1 = some (r1, r2)) :
  Calls Try.prog 38 #[.agg #[.int .i64 a0_0, .int .i64 a0_1]] w fun e w' => e = .returned (.agg #[.int .i64 r1, .int .i64 r2]) ∧ Below w.heap.size w w' := by
 have hu67 := Try.underlying67
 have hu74 := Try.underlying74
 have HB := Aside0.mk (Below.refl w.heap.size w)
 have H : (some (a0_0, a0_1)) = some (r1, r2) := h
 clear h
 simp only [Option.some.injEq, Prod.mk.injEq] at H
 obtain ⟨rfl, rfl⟩ := H
 go_enter Try.func38, Try.ntmps38
 go_wp2_with (first | ((with_reducible refine gate_dst (N := 1) rfl ?_); refine box_event ?hg (N := 1) ?hd (cs := #[.int .i64 a0_0, .int .i64 a0_1]) (t := 67) ?hr ?_; (case hd => rfl); (case hg => rfl); (case hr => exact gs_); intro gb760 hg w2 hbox hb; have BK760 := Aside0.mk (hbox); have GW760 := gE_ HB hg; have GE760 := gE_ HB hg; replace HB := Aside0.mk (below_step (by repeat (first | (with_reducible first | exact HB.out | apply ba_ | apply bn_ | apply bd_) | exact HB.out)) hb); clear hb hbox hg) | ((with_reducible refine gate_dst (N := 2) rfl ?_); refine box_event ?hg (N := 2) ?hd (cs := #[.int .i64 0, .int .i64 0]) (t := 74) ?hr ?_; (case hd => rfl); (case hg => rfl); (case hr => exact gs_); intro gb761 hg w3 hbox hb; have BK761 := Aside0.mk (hbox); have GW761 := gE_ HB hg; have GE761 := gE_ HB hg; replace HB := Aside0.mk (below_step (by repeat (first | (with_reducible first | exact HB.out | apply ba_ | apply bn_ | apply bd_ | refine bset_ ?_ (by assumption)) | exact HB.out)) hb); have NB760_761 := nB_ BK760 hg; have NB761_760 := nA_ BK760 hg; replace BK760 := bB_ BK760 hb; clear hb hbox hg) | ((with_reducible refine gate_dst (N := 3) rfl ?_); refine box_event ?hg (N := 3) ?hd (cs := #[.int .i64 0, .int .i64 0]) (t := 74) ?hr ?_; (case hd => rfl); (case hg => rfl); (case hr => exact gs_); intro gb762 hg w4 hbox hb; have BK762 := Aside0.mk (hbox); have GW762 := gE_ HB hg; have GE762 := gE_ HB hg; replace HB := Aside0.mk (below_step (by repeat (first | (with_reducible first | exact HB.out | apply ba_ | apply bn_ | apply bd_ | refine bset_ ?_ (by assumption)) | exact HB.out)) hb); have NB760_762 := nB_ BK760 hg; have NB762_760 := nA_ BK760 hg; replace BK760 := bB_ BK760 hb; have NB761_762 := nB_ BK761 hg; have NB762_761 := nA_ BK761 hg; replace BK761 := bB_ BK761 hb; clear hb hbox hg; have hnb5 := NB760_761.out; have hnc5 := NB761_760.out; have hnb6 := NB760_762.out; have hnc6 := NB762_760.out; obtain ⟨hcz7_0, hcz7_1, hfz7_0, hfz7_1⟩ := zc2_ BK760; have hnb8 := NB762_761.out; have hnc8 := NB761_762.out; obtain ⟨hcz9_0, hcz9_1, hfz9_0, hfz9_1⟩ := zc2_ BK762; obtain ⟨hcz10_0, hcz10_1, hfz10_0, hfz10_1⟩ := zc2_ BK761))
 refine bodyPost_ret (results_cell_row rfl _ _ gb761 74 #[.int .i64 a0_0, .int .i64 a0_1] (0, 0) _ rfl (by exact fB_ BK761) Try.underlying74 rfl (by kernel_rfl)) rfl ?_
 exact ⟨er_, by repeat (first | (with_reducible first | exact HB.out | apply below_alloc | apply pw_below_drewN | apply below_drew1 | refine below_set ?_ GE760.out | refine below_set ?_ GE761.out | refine below_set ?_ GE762.out) | exact HB.out)⟩
end Go.Proofs.Ytmkcbbbknbahgaa.P
namespace Go.Proofs.Ytmkcbbbknbahgaa.P
open Go.RowKit Go.Proofs.YtmkcbbbknbahgaaW.PrintWords Go.Proofs.YtmkcbbbknbahgaaW.PrintLast Go.Proofs.YtmkcbbbknbahgaaW.PrintMore
attribute [local go_sem] max2_int min2_int max_two min_two max_three min_three max_four min_four   -- for this text's walks alone
set_option linter.unusedVariables false
set_option linter.unusedSimpArgs false

def laws_eqIntS.l0 : Nat → List Int → List Int → Int → Option (Bool)
 | 0, _, _, _ => none
 | k + 1, x0, x1, x5 => if x5 < (x0.length : Int) then (if 0 ≤ x5 then (if x5 < (x1.length : Int) then (if (rd x0 x5) = (rd x1 x5) then (laws_eqIntS.l0 k x0 x1 (wrap64 (x5 + 1))) else (some false)) else (none)) else (none)) else (some true)

def laws_eqIntS.f (k : Nat) (l0 : List Int) (l1 : List Int) : Option (Bool) := if (l0.length : Int) = (l1.length : Int) then (laws_eqIntS.l0 k l0 l1 0) else (some false)

set_option maxHeartbeats 8000000 in
set_option maxRecDepth 100000 in
theorem laws_eqIntS.calls (k : Nat) (A0 : Option Addr) (c0 : Nat) (l0 : List Int) (A1 : Option Addr) (c1 : Nat) (l1 : List Int) (r : Bool) (w : World) (hr0 : Kd.C (Kd.int .i64) w A0 l0.length l0) (hc0 : l0.length ≤ c0) (hr1 : Kd.C (Kd.int .i64) w A1 l1.length l1) (hc1 : l1.length ≤ c1) (h : laws_eqIntS.f k l0 l1 = some r) :
  Calls Try.prog 103 #[.slice A0 l0.length c0, .slice A1 l1.length c1] w fun e w' => e = .returned (.bool r) ∧ Drawn0 w w' := by
 have HR0 := Aside0.mk hr0
 have HC0 := Aside0.mk hc0
 clear hr0 hc0
 have HR1 := Aside0.mk hr1
 have HC1 := Aside0.mk hc1
 clear hr1 hc1
 have H : (if (l0.length : Int) = (l1.length : Int) then (laws_eqIntS.l0 k l0 l1 0) else (some false)) = some r := h
 clear h
 by_cases c3 : (l0.length : Int) = (l1.length : Int)
 ·rw [if_pos c3] at H
  have c3b0 : ((l0.length : Int) == (l1.length : Int)) = true := beq_iff_eq.mpr c3
  have c3b1 : ((l0.length : Int) != (l1.length : Int)) = false := bne_eq_false_iff_eq.mpr c3
  have c3b2 : (l0.length == l1.length) = true := by first | simpa using c3 | (simp at c3 ⊢; omega)
  clear c3
  have H' := Aside0.mk H
  clear H
  go_enter Try.func103, Try.ntmps103
  go_wp2
  repeat (go_quiet (fail); try go_wp2)
  go_loopg [5] k (fun kq v5 w' => ∃ (x5_1 : Int), v5 = .int .i64 x5_1 ∧ Aside0 (laws_eqIntS.l0 kq l0 l1 x5_1 = some r) ∧ Aside0 (kq ≤ k) ∧ Drawn0 w w')
  case atStart => exact ⟨(0), (by first | rfl | (simp; done) | (simp [*]; done)), H', ⟨Nat.le_refl _⟩, by repeat (first | exact Drawn0.refl _ | apply Drawn0.step)⟩
  case round =>
   clear H'
   try clear c1
   try clear p2
   try clear c3
   try clear c3b0
   try clear c3b1
   try clear c3b2
   obtain ⟨x5_1, rfl, HA, HK1, ⟨m1, rfl⟩⟩ := hrel
   cases gk with
   | zero => exact absurd HA.out (by simp [laws_eqIntS.l0])
   | succ k1 =>
    have H := HA.out
    clear HA
    simp only [laws_eqIntS.l0] at H
    by_cases c4 : x5_1 < (l0.length : Int)
    ·rw [if_pos c4] at H
     have c4b0 : decide (x5_1 < (l0.length : Int)) = true := decide_eq_true c4
     clear c4
     by_cases c5 : 0 ≤ x5_1
     ·rw [if_pos c5] at H
      have c5b0 : decide (0 ≤ x5_1) = true := decide_eq_true c5
      clear c5
      by_cases c6 : x5_1 < (l1.length : Int)
      ·rw [if_pos c6] at H
       have c6b0 : decide (x5_1 < (l1.length : Int)) = true := decide_eq_true c6
       clear c6
       by_cases c7 : (rd l0 x5_1) = (rd l1 x5_1)
       ·rw [if_pos c7] at H
        have c7b0 : ((rd l0 x5_1) == (rd l1 x5_1)) = true := beq_iff_eq.mpr c7
        have c7b1 : ((rd l0 x5_1) != (rd l1 x5_1)) = false := bne_eq_false_iff_eq.mpr c7
        clear c7
        have H' := Aside0.mk H
        clear H
        have p825 : 0 ≤ (x5_1 : Int) := of_decide_eq_true as_
        have q825 : x5_1 < (l0.length : Int) := of_decide_eq_true as_
        obtain ⟨ad825, e825, hx825_0⟩ := Kd.at_int HR0.out x5_1 p825 q825
        cases e825
        replace p825 := eq_true p825
        replace q825 := eq_true q825
        have p826 : 0 ≤ (x5_1 : Int) := of_decide_eq_true as_
        have q826 : x5_1 < (l1.length : Int) := of_decide_eq_true as_
        obtain ⟨ad826, e826, hx826_0⟩ := Kd.at_int HR1.out x5_1 p826 q826
        cases e826
        replace p826 := eq_true p826
        replace q826 := eq_true q826
        go_wp2
        repeat (go_quiet (fail); try go_wp2)
        go_roundg k1
        case measure => have := HK1.out; omega
        case rel => exact ⟨(wrap64 (x5_1 + 1)), (by first | rfl | (simp; done) | (simp [*]; done)), H', ⟨by have := HK1.out; omega⟩, by repeat (first | exact Drawn0.refl _ | apply Drawn0.step)⟩
       ·rw [if_neg c7] at H
        have c7b0 : ((rd l0 x5_1) == (rd l1 x5_1)) = false := beq_eq_false_iff_ne.mpr c7
        have c7b1 : ((rd l0 x5_1) != (rd l1 x5_1)) = true := bne_iff_ne.mpr c7
        obtain rfl := Option.some.inj H
        have p825 : 0 ≤ (x5_1 : Int) := of_decide_eq_true as_
        have q825 : x5_1 < (l0.length : Int) := of_decide_eq_true as_
        obtain ⟨ad825, e825, hx825_0⟩ := Kd.at_int HR0.out x5_1 p825 q825
        cases e825
        replace p825 := eq_true p825
        replace q825 := eq_true q825
        have p826 : 0 ≤ (x5_1 : Int) := of_decide_eq_true as_
        have q826 : x5_1 < (l1.length : Int) := of_decide_eq_true as_
        obtain ⟨ad826, e826, hx826_0⟩ := Kd.at_int HR1.out x5_1 p826 q826
        cases e826
        replace p826 := eq_true p826
        replace q826 := eq_true q826
        go_wp2
        repeat (go_quiet (fail); try go_wp2)
        go_ret
        exact ⟨by first | rfl | (simp; done) | (simp [*]; done), by repeat (first | exact Drawn0.refl _ | apply Drawn0.step)⟩
      ·rw [if_neg c6] at H
       exact absurd H (by simp)
     ·rw [if_neg c5] at H
      exact absurd H (by simp)
    ·rw [if_neg c4] at H
     have c4b0 : decide (x5_1 < (l0.length : Int)) = false := decide_eq_false c4
     clear c4
     obtain rfl := Option.some.inj H
     go_wp2
     repeat (go_quiet (fail); try go_wp2)
     go_ret
     exact ⟨by first | rfl | (simp; done) | (simp [*]; done), by repeat (first | exact Drawn0.refl _ | apply Drawn0.step)⟩
 ·rw [if_neg c3] at H
  have c3b0 : ((l0.length : Int) == (l1.length : Int)) = false := beq_eq_false_iff_ne.mpr c3
  have c3b1 : ((l0.length : Int) != (l1.length : Int)) = true := bne_iff_ne.mpr c3
  have c3b2 : (l0.length == l1.length) = false := by first | simpa using c3 | (simp at c3 ⊢; omega)
  obtain rfl := Option.some.inj H
  go_enter Try.func103, Try.ntmps103
  go_wp2
  repeat (go_quiet (fail); try go_wp2)
  go_ret
  exact ⟨by first | rfl | (simp; done) | (simp [*]; done), by repeat (first | exact Drawn0.refl _ | apply Drawn0.step)⟩
end Go.Proofs.Ytmkcbbbknbahgaa.P
namespace Go.Proofs.Ytmkcbbbknbahgaa.P
open Go.RowKit Go.Proofs.YtmkcbbbknbahgaaW.PrintWords Go.Proofs.YtmkcbbbknbahgaaW.PrintLast Go.Proofs.YtmkcbbbknbahgaaW.PrintMore
attribute [local go_sem] max2_int min2_int max_two min_two max_three min_three max_four min_four   -- for this text's walks alone
set_option linter.unusedVariables false
set_option linter.unusedSimpArgs false

def laws_eqWindow.f (a0_0 : Int) (a0_1 : Int) (a0_2 : Int) (a0_3 : Int) (a1_0 : Int) (a1_1 : Int) (a1_2 : Int) (a1_3 : Int) : Option (Bool) := if a0_0 = a1_0 then (if a0_1 = a1_1 then (if a0_2 = a1_2 then (if a0_3 = a1_3 then (some true) else (some false)) else (some false)) else (some false)) else (some false)

set_option maxHeartbeats 8000000 in
set_option maxRecDepth 100000 in
theorem laws_eqWindow.calls (a0_0 : Int) (a0_1 : Int) (a0_2 : Int) (a0_3 : Int) (a1_0 : Int) (a1_1 : Int) (a1_2 : Int) (a1_3 : Int) (r : Bool) (w : World) (h : laws_eqWindow.f a0_0 a0_1 a0_2 a0_3 a1_0 a1_1 a1_2 a1_3 = some r) :
  Calls Try.prog 41 #[.agg #[.int .i64 a0_0, .int .i64 a0_1, .int .i64 a0_2, .int .i64 a0_3], .agg #[.int .i64 a1_0, .int .i64 a1_1, .int .i64 a1_2, .int .i64 a1_3]] w fun e w' => e = .returned (.bool r) ∧ Below w.heap.size w w' := by
 have hu32 := Try.underlying32
 have HB := Aside0.mk (Below.refl w.heap.size w)
 have H : (if a0_0 = a1_0 then (if a0_1 = a1_1 then (if a0_2 = a1_2 then (if a0_3 = a1_3 then (some true) else (some false)) else (some false)) else (some false)) else (some false)) = some r := h
 clear h
 by_cases c3 : a0_0 = a1_0
 ·rw [if_pos c3] at H
  have c3b0 : (a0_0 == a1_0) = true := beq_iff_eq.mpr c3
  have c3b1 : (a0_0 != a1_0) = false := bne_eq_false_iff_eq.mpr c3
  clear c3
  by_cases c4 : a0_1 = a1_1
  ·rw [if_pos c4] at H
   have c4b0 : (a0_1 == a1_1) = true := beq_iff_eq.mpr c4
   have c4b1 : (a0_1 != a1_1) = false := bne_eq_false_iff_eq.mpr c4
   clear c4
   by_cases c5 : a0_2 = a1_2
   ·rw [if_pos c5] at H
    have c5b0 : (a0_2 == a1_2) = true := beq_iff_eq.mpr c5
    have c5b1 : (a0_2 != a1_2) = false := bne_eq_false_iff_eq.mpr c5
    clear c5
    by_cases c6 : a0_3 = a1_3
    ·rw [if_pos c6] at H
     have c6b0 : (a0_3 == a1_3) = true := beq_iff_eq.mpr c6
     have c6b1 : (a0_3 != a1_3) = false := bne_eq_false_iff_eq.mpr c6
     clear c6
     obtain rfl := Option.some.inj H
     go_enter Try.func41, Try.ntmps41
     go_wp2_with (first | ((with_reducible refine gate_dst (N := 2) rfl ?_); refine box_event ?hg (N := 2) ?hd (cs := #[.int .i64 a0_0, .int .i64 a0_1, .int .i64 a0_2, .int .i64 a0_3]) (t := 32) ?hr ?_; (case hd => rfl); (case hg => rfl); (case hr => exact gs_); intro gb357 hg w7 hbox hb; have BK357 := Aside0.mk (hbox); have GW357 := gE_ HB hg; have GE357 := gE_ HB hg; replace HB := Aside0.mk (below_step (by repeat (first | (with_reducible first | exact HB.out | apply ba_ | apply bn_ | apply bd_) | exact HB.out)) hb); clear hb hbox hg) | ((with_reducible refine gate_dst (N := 3) rfl ?_); refine box_event ?hg (N := 3) ?hd (cs := #[.int .i64 a1_0, .int .i64 a1_1, .int .i64 a1_2, .int .i64 a1_3]) (t := 32) ?hr ?_; (case hd => rfl); (case hg => rfl); (case hr => exact gs_); intro gb358 hg w8 hbox hb; have BK358 := Aside0.mk (hbox); have GW358 := gE_ HB hg; have GE358 := gE_ HB hg; replace HB := Aside0.mk (below_step (by repeat (first | (with_reducible first | exact HB.out | apply ba_ | apply bn_ | apply bd_ | refine bset_ ?_ (by assumption)) | exact HB.out)) hb); have NB357_358 := nB_ BK357 hg; have NB358_357 := nA_ BK357 hg; replace BK357 := bB_ BK357 hb; clear hb hbox hg; have hnb9 := NB357_358.out; have hnc9 := NB358_357.out; obtain ⟨hcz10_0, hcz10_1, hcz10_2, hcz10_3, hfz10_0, hfz10_1, hfz10_2, hfz10_3⟩ := zc4_ BK357; obtain ⟨hcz11_0, hcz11_1, hcz11_2, hcz11_3, hfz11_0, hfz11_1, hfz11_2, hfz11_3⟩ := zc4_ BK358))
     go_ret
     exact ⟨er_, by repeat (first | (with_reducible first | exact HB.out | apply below_alloc | apply pw_below_drewN | apply below_drew1 | refine below_set ?_ GE357.out | refine below_set ?_ GE358.out) | exact HB.out)⟩
    ·rw [if_neg c6] at H
     have c6b0 : (a0_3 == a1_3) = false := beq_eq_false_iff_ne.mpr c6
     have c6b1 : (a0_3 != a1_3) = true := bne_iff_ne.mpr c6
     obtain rfl := Option.some.inj H
     go_enter Try.func41, Try.ntmps41
     go_wp2_with (first | ((with_reducible refine gate_dst (N := 2) rfl ?_); refine box_event ?hg (N := 2) ?hd (cs := #[.int .i64 a0_0, .int .i64 a0_1, .int .i64 a0_2, .int .i64 a0_3]) (t := 32) ?hr ?_; (case hd => rfl); (case hg => rfl); (case hr => exact gs_); intro gb357 hg w12 hbox hb; have BK357 := Aside0.mk (hbox); have GW357 := gE_ HB hg; have GE357 := gE_ HB hg; replace HB := Aside0.mk (below_step (by repeat (first | (with_reducible first | exact HB.out | apply ba_ | apply bn_ | apply bd_) | exact HB.out)) hb); clear hb hbox hg) | ((with_reducible refine gate_dst (N := 3) rfl ?_); refine box_event ?hg (N := 3) ?hd (cs := #[.int .i64 a1_0, .int .i64 a1_1, .int .i64 a1_2, .int .i64 a1_3]) (t := 32) ?hr ?_; (case hd => rfl); (case hg => rfl); (case hr => exact gs_); intro gb358 hg w13 hbox hb; have BK358 := Aside0.mk (hbox); have GW358 := gE_ HB hg; have GE358 := gE_ HB hg; replace HB := Aside0.mk (below_step (by repeat (first | (with_reducible first | exact HB.out | apply ba_ | apply bn_ | apply bd_ | refine bset_ ?_ (by assumption)) | exact HB.out)) hb); have NB357_358 := nB_ BK357 hg; have NB358_357 := nA_ BK357 hg; replace BK357 := bB_ BK357 hb; clear hb hbox hg; have hnb14 := NB357_358.out; have hnc14 := NB358_357.out; obtain ⟨hcz15_0, hcz15_1, hcz15_2, hcz15_3, hfz15_0, hfz15_1, hfz15_2, hfz15_3⟩ := zc4_ BK357; obtain ⟨hcz16_0, hcz16_1, hcz16_2, hcz16_3, hfz16_0, hfz16_1, hfz16_2, hfz16_3⟩ := zc4_ BK358))
     go_ret
     exact ⟨er_, by repeat (first | (with_reducible first | exact HB.out | apply below_alloc | apply pw_below_drewN | apply below_drew1 | refine below_set ?_ GE357.out | refine below_set ?_ GE358.out) | exact HB.out)⟩
   ·rw [if_neg c5] at H
    have c5b0 : (a0_2 == a1_2) = false := beq_eq_false_iff_ne.mpr c5
    have c5b1 : (a0_2 != a1_2) = true := bne_iff_ne.mpr c5
    obtain rfl := Option.some.inj H
    go_enter Try.func41, Try.ntmps41
    go_wp2_with (first | ((with_reducible refine gate_dst (N := 2) rfl ?_); refine box_event ?hg (N := 2) ?hd (cs := #[.int .i64 a0_0, .int .i64 a0_1, .int .i64 a0_2, .int .i64 a0_3]) (t := 32) ?hr ?_; (case hd => rfl); (case hg => rfl); (case hr => exact gs_); intro gb357 hg w17 hbox hb; have BK357 := Aside0.mk (hbox); have GW357 := gE_ HB hg; have GE357 := gE_ HB hg; replace HB := Aside0.mk (below_step (by repeat (first | (with_reducible first | exact HB.out | apply ba_ | apply bn_ | apply bd_) | exact HB.out)) hb); clear hb hbox hg) | ((with_reducible refine gate_dst (N := 3) rfl ?_); refine box_event ?hg (N := 3) ?hd (cs := #[.int .i64 a1_0, .int .i64 a1_1, .int .i64 a1_2, .int .i64 a1_3]) (t := 32) ?hr ?_; (case hd => rfl); (case hg => rfl); (case hr => exact gs_); intro gb358 hg w18 hbox hb; have BK358 := Aside0.mk (hbox); have GW358 := gE_ HB hg; have GE358 := gE_ HB hg; replace HB := Aside0.mk (below_step (by repeat (first | (with_reducible first | exact HB.out | apply ba_ | apply bn_ | apply bd_ | refine bset_ ?_ (by assumption)) | exact HB.out)) hb); have NB357_358 := nB_ BK357 hg; have NB358_357 := nA_ BK357 hg; replace BK357 := bB_ BK357 hb; clear hb hbox hg; have hnb19 := NB357_358.out; have hnc19 := NB358_357.out; obtain ⟨hcz20_0, hcz20_1, hcz20_2, hcz20_3, hfz20_0, hfz20_1, hfz20_2, hfz20_3⟩ := zc4_ BK357; obtain ⟨hcz21_0, hcz21_1, hcz21_2, hcz21_3, hfz21_0, hfz21_1, hfz21_2, hfz21_3⟩ := zc4_ BK358))
    go_ret
    exact ⟨er_, by repeat (first | (with_reducible first | exact HB.out | apply below_alloc | apply pw_below_drewN | apply below_drew1 | refine below_set ?_ GE357.out | refine below_set ?_ GE358.out) | exact HB.out)⟩
  ·rw [if_neg c4] at H
   have c4b0 : (a0_1 == a1_1) = false := beq_eq_false_iff_ne.mpr c4
   have c4b1 : (a0_1 != a1_1) = true := bne_iff_ne.mpr c4
   obtain rfl := Option.some.inj H
   go_enter Try.func41, Try.ntmps41
   go_wp2_with (first | ((with_reducible refine gate_dst (N := 2) rfl ?_); refine box_event ?hg (N := 2) ?hd (cs := #[.int .i64 a0_0, .int .i64 a0_1, .int .i64 a0_2, .int .i64 a0_3]) (t := 32) ?hr ?_; (case hd => rfl); (case hg => rfl); (case hr => exact gs_); intro gb357 hg w22 hbox hb; have BK357 := Aside0.mk (hbox); have GW357 := gE_ HB hg; have GE357 := gE_ HB hg; replace HB := Aside0.mk (below_step (by repeat (first | (with_reducible first | exact HB.out | apply ba_ | apply bn_ | apply bd_) | exact HB.out)) hb); clear hb hbox hg) | ((with_reducible refine gate_dst (N := 3) rfl ?_); refine box_event ?hg (N := 3) ?hd (cs := #[.int .i64 a1_0, .int .i64 a1_1, .int .i64 a1_2, .int .i64 a1_3]) (t := 32) ?hr ?_; (case hd => rfl); (case hg => rfl); (case hr => exact gs_); intro gb358 hg w23 hbox hb; have BK358 := Aside0.mk (hbox); have GW358 := gE_ HB hg; have GE358 := gE_ HB hg; replace HB := Aside0.mk (below_step (by repeat (first | (with_reducible first | exact HB.out | apply ba_ | apply bn_ | apply bd_ | refine bset_ ?_ (by assumption)) | exact HB.out)) hb); have NB357_358 := nB_ BK357 hg; have NB358_357 := nA_ BK357 hg; replace BK357 := bB_ BK357 hb; clear hb hbox hg; have hnb24 := NB357_358.out; have hnc24 := NB358_357.out; obtain ⟨hcz25_0, hcz25_1, hcz25_2, hcz25_3, hfz25_0, hfz25_1, hfz25_2, hfz25_3⟩ := zc4_ BK357; obtain ⟨hcz26_0, hcz26_1, hcz26_2, hcz26_3, hfz26_0, hfz26_1, hfz26_2, hfz26_3⟩ := zc4_ BK358))
   go_ret
   exact ⟨er_, by repeat (first | (with_reducible first | exact HB.out | apply below_alloc | apply pw_below_drewN | apply below_drew1 | refine below_set ?_ GE357.out | refine below_set ?_ GE358.out) | exact HB.out)⟩
 ·rw [if_neg c3] at H
  have c3b0 : (a0_0 == a1_0) = false := beq_eq_false_iff_ne.mpr c3
  have c3b1 : (a0_0 != a1_0) = true := bne_iff_ne.mpr c3
  obtain rfl := Option.some.inj H
  go_enter Try.func41, Try.ntmps41
  go_wp2_with (first | ((with_reducible refine gate_dst (N := 2) rfl ?_); refine box_event ?hg (N := 2) ?hd (cs := #[.int .i64 a0_0, .int .i64 a0_1, .int .i64 a0_2, .int .i64 a0_3]) (t := 32) ?hr ?_; (case hd => rfl); (case hg => rfl); (case hr => exact gs_); intro gb357 hg w27 hbox hb; have BK357 := Aside0.mk (hbox); have GW357 := gE_ HB hg; have GE357 := gE_ HB hg; replace HB := Aside0.mk (below_step (by repeat (first | (with_reducible first | exact HB.out | apply ba_ | apply bn_ | apply bd_) | exact HB.out)) hb); clear hb hbox hg) | ((with_reducible refine gate_dst (N := 3) rfl ?_); refine box_event ?hg (N := 3) ?hd (cs := #[.int .i64 a1_0, .int .i64 a1_1, .int .i64 a1_2, .int .i64 a1_3]) (t := 32) ?hr ?_; (case hd => rfl); (case hg => rfl); (case hr => exact gs_); intro gb358 hg w28 hbox hb; have BK358 := Aside0.mk (hbox); have GW358 := gE_ HB hg; have GE358 := gE_ HB hg; replace HB := Aside0.mk (below_step (by repeat (first | (with_reducible first | exact HB.out | apply ba_ | apply bn_ | apply bd_ | refine bset_ ?_ (by assumption)) | exact HB.out)) hb); have NB357_358 := nB_ BK357 hg; have NB358_357 := nA_ BK357 hg; replace BK357 := bB_ BK357 hb; clear hb hbox hg; have hnb29 := NB357_358.out; have hnc29 := NB358_357.out; obtain ⟨hcz30_0, hcz30_1, hcz30_2, hcz30_3, hfz30_0, hfz30_1, hfz30_2, hfz30_3⟩ := zc4_ BK357; obtain ⟨hcz31_0, hcz31_1, hcz31_2, hcz31_3, hfz31_0, hfz31_1, hfz31_2, hfz31_3⟩ := zc4_ BK358))
  go_ret
  exact ⟨er_, by repeat (first | (with_reducible first | exact HB.out | apply below_alloc | apply pw_below_drewN | apply below_drew1 | refine below_set ?_ GE357.out | refine below_set ?_ GE358.out) | exact HB.out)⟩
end Go.Proofs.Ytmkcbbbknbahgaa.P
namespace Go.Proofs.Ytmkcbbbknbahgaa.P
open Go.RowKit Go.Proofs.YtmkcbbbknbahgaaW.PrintWords Go.Proofs.YtmkcbbbknbahgaaW.PrintLast Go.Proofs.YtmkcbbbknbahgaaW.PrintMore
attribute [local go_sem] max2_int min2_int max_two min_two max_three min_three max_four min_four   -- for this text's walks alone
set_option linter.unusedVariables false
set_option linter.unusedSimpArgs false

def laws_eqByteS.l0 : Nat → List Int → List Int → Int → Option (Bool)
 | 0, _, _, _ => none
 | k + 1, x0, x1, x5 => if x5 < (x0.length : Int) then (if 0 ≤ x5 then (if x5 < (x1.length : Int) then (if (rd x0 x5) = (rd x1 x5) then (laws_eqByteS.l0 k x0 x1 (wrap64 (x5 + 1))) else (some false)) else (none)) else (none)) else (some true)

def laws_eqByteS.f (k : Nat) (l0 : List Int) (l1 : List Int) : Option (Bool) := if (l0.length : Int) = (l1.length : Int) then (laws_eqByteS.l0 k l0 l1 0) else (some false)

set_option maxHeartbeats 8000000 in
set_option maxRecDepth 100000 in
theorem laws_eqByteS.calls (k : Nat) (A0 : Option Addr) (c0 : Nat) (l0 : List Int) (A1 : Option Addr) (c1 : Nat) (l1 : List Int) (r : Bool) (w : World) (hr0 : Kd.C (Kd.int .u8) w A0 l0.length l0) (hc0 : l0.length ≤ c0) (hr1 : Kd.C (Kd.int .u8) w A1 l1.length l1) (hc1 : l1.length ≤ c1) (h : laws_eqByteS.f k l0 l1 = some r) :
  Calls Try.prog 19 #[.slice A0 l0.length c0, .slice A1 l1.length c1] w fun e w' => e = .returned (.bool r) ∧ Drawn0 w w' := by
 have HR0 := Aside0.mk hr0
 have HC0 := Aside0.mk hc0
 clear hr0 hc0
 have HR1 := Aside0.mk hr1
 have HC1 := Aside0.mk hc1
 clear hr1 hc1
 have H : (if (l0.length : Int) = (l1.length : Int) then (laws_eqByteS.l0 k l0 l1 0) else (some false)) = some r := h
 clear h
 by_cases c3 : (l0.length : Int) = (l1.length : Int)
 ·rw [if_pos c3] at H
  have c3b0 : ((l0.length : Int) == (l1.length : Int)) = true := beq_iff_eq.mpr c3
  have c3b1 : ((l0.length : Int) != (l1.length : Int)) = false := bne_eq_false_iff_eq.mpr c3
  have c3b2 : (l0.length == l1.length) = true := by first | simpa using c3 | (simp at c3 ⊢; omega)
  clear c3
  have H' := Aside0.mk H
  clear H
  go_enter Try.func19, Try.ntmps19
  go_wp2
  repeat (go_quiet (fail); try go_wp2)
  go_loopg [5] k (fun kq v5 w' => ∃ (x5_1 : Int), v5 = .int .i64 x5_1 ∧ Aside0 (laws_eqByteS.l0 kq l0 l1 x5_1 = some r) ∧ Aside0 (kq ≤ k) ∧ Drawn0 w w')
  case atStart => exact ⟨(0), (by first | rfl | (simp; done) | (simp [*]; done)), H', ⟨Nat.le_refl _⟩, by repeat (first | exact Drawn0.refl _ | apply Drawn0.step)⟩
  case round =>
   clear H'
   try clear c1
   try clear p2
   try clear c3
   try clear c3b0
   try clear c3b1
   try clear c3b2
   obtain ⟨x5_1, rfl, HA, HK1, ⟨m1, rfl⟩⟩ := hrel
   cases gk with
   | zero => exact absurd HA.out (by simp [laws_eqByteS.l0])
   | succ k1 =>
    have H := HA.out
    clear HA
    simp only [laws_eqByteS.l0] at H
    by_cases c4 : x5_1 < (l0.length : Int)
    ·rw [if_pos c4] at H
     have c4b0 : decide (x5_1 < (l0.length : Int)) = true := decide_eq_true c4
     clear c4
     by_cases c5 : 0 ≤ x5_1
     ·rw [if_pos c5] at H
      have c5b0 : decide (0 ≤ x5_1) = true := decide_eq_true c5
      clear c5
      by_cases c6 : x5_1 < (l1.length : Int)
      ·rw [if_pos c6] at H
       have c6b0 : decide (x5_1 < (l1.length : Int)) = true := decide_eq_true c6
       clear c6
       by_cases c7 : (rd l0 x5_1) = (rd l1 x5_1)
       ·rw [if_pos c7] at H
        have c7b0 : ((rd l0 x5_1) == (rd l1 x5_1)) = true := beq_iff_eq.mpr c7
        have c7b1 : ((rd l0 x5_1) != (rd l1 x5_1)) = false := bne_eq_false_iff_eq.mpr c7
        clear c7
        have H' := Aside0.mk H
        clear H
        have p359 : 0 ≤ (x5_1 : Int) := of_decide_eq_true as_
        have q359 : x5_1 < (l0.length : Int) := of_decide_eq_true as_
        obtain ⟨ad359, e359, hx359_0⟩ := Kd.at_int HR0.out x5_1 p359 q359
        cases e359
        replace p359 := eq_true p359
        replace q359 := eq_true q359
        have p360 : 0 ≤ (x5_1 : Int) := of_decide_eq_true as_
        have q360 : x5_1 < (l1.length : Int) := of_decide_eq_true as_
        obtain ⟨ad360, e360, hx360_0⟩ := Kd.at_int HR1.out x5_1 p360 q360
        cases e360
        replace p360 := eq_true p360
        replace q360 := eq_true q360
        go_wp2
        repeat (go_quiet (fail); try go_wp2)
        go_roundg k1
        case measure => have := HK1.out; omega
        case rel => exact ⟨(wrap64 (x5_1 + 1)), (by first | rfl | (simp; done) | (simp [*]; done)), H', ⟨by have := HK1.out; omega⟩, by repeat (first | exact Drawn0.refl _ | apply Drawn0.step)⟩
       ·rw [if_neg c7] at H
        have c7b0 : ((rd l0 x5_1) == (rd l1 x5_1)) = false := beq_eq_false_iff_ne.mpr c7
        have c7b1 : ((rd l0 x5_1) != (rd l1 x5_1)) = true := bne_iff_ne.mpr c7
        obtain rfl := Option.some.inj H
        have p359 : 0 ≤ (x5_1 : Int) := of_decide_eq_true as_
        have q359 : x5_1 < (l0.length : Int) := of_decide_eq_true as_
        obtain ⟨ad359, e359, hx359_0⟩ := Kd.at_int HR0.out x5_1 p359 q359
        cases e359
        replace p359 := eq_true p359
        replace q359 := eq_true q359
        have p360 : 0 ≤ (x5_1 : Int) := of_decide_eq_true as_
        have q360 : x5_1 < (l1.length : Int) := of_decide_eq_true as_
        obtain ⟨ad360, e360, hx360_0⟩ := Kd.at_int HR1.out x5_1 p360 q360
        cases e360
        replace p360 := eq_true p360
        replace q360 := eq_true q360
        go_wp2
        repeat (go_quiet (fail); try go_wp2)
        go_ret
        exact ⟨by first | rfl | (simp; done) | (simp [*]; done), by repeat (first | exact Drawn0.refl _ | apply Drawn0.step)⟩
      ·rw [if_neg c6] at H
       exact absurd H (by simp)
     ·rw [if_neg c5] at H
      exact absurd H (by simp)
    ·rw [if_neg c4] at H
     have c4b0 : decide (x5_1 < (l0.length : Int)) = false := decide_eq_false c4
     clear c4
     obtain rfl := Option.some.inj H
     go_wp2
     repeat (go_quiet (fail); try go_wp2)
     go_ret
     exact ⟨by first | rfl | (simp; done) | (simp [*]; done), by repeat (first | exact Drawn0.refl _ | apply Drawn0.step)⟩
 ·rw [if_neg c3] at H
  have c3b0 : ((l0.length : Int) == (l1.length : Int)) = false := beq_eq_false_iff_ne.mpr c3
  have c3b1 : ((l0.length : Int) != (l1.length : Int)) = true := bne_iff_ne.mpr c3
  have c3b2 : (l0.length == l1.length) = false := by first | simpa using c3 | (simp at c3 ⊢; omega)
  obtain rfl := Option.some.inj H
  go_enter Try.func19, Try.ntmps19
  go_wp2
  repeat (go_quiet (fail); try go_wp2)
  go_ret
  exact ⟨by first | rfl | (simp; done) | (simp [*]; done), by repeat (first | exact Drawn0.refl _ | apply Drawn0.step)⟩
end Go.Proofs.Ytmkcbbbknbahgaa.P
namespace Go.Proofs.Ytmkcbbbknbahgaa.P
open Go.RowKit Go.Proofs.YtmkcbbbknbahgaaW.PrintWords Go.Proofs.YtmkcbbbknbahgaaW.PrintLast Go.Proofs.YtmkcbbbknbahgaaW.PrintMore
attribute [local go_sem] max2_int min2_int max_two min_two max_three min_three max_four min_four   -- for this text's walks alone
set_option linter.unusedVariables false
set_option linter.unusedSimpArgs false

def laws_eqByteSS.l0 : Nat → List (List Int) → List (List Int) → Int → Option (Bool)
 | 0, _, _, _ => none
 | k + 1, x0, x1, x5 => if x5 < (x0.length : Int) then (if 0 ≤ x5 then (if x5 < (x1.length : Int) then ((laws_eqByteS.f k (rd_L1 x0 x5) (rd_L1 x1 x5)).bind fun t363 => (if t363 = true then (laws_eqByteSS.l0 k x0 x1 (wrap64 (x5 + 1))) else (some false))) else (none)) else (none)) else (some true)

def laws_eqByteSS.f (k : Nat) (l0 : List (List Int)) (l1 : List (List Int)) : Option (Bool) := if (l0.length : Int) = (l1.length : Int) then (laws_eqByteSS.l0 k l0 l1 0) else (some false)

set_option maxHeartbeats 8000000 in
set_option maxRecDepth 100000 in
theorem laws_eqByteSS.calls (k : Nat) (A0 : Option Addr) (c0 : Nat) (l0 : List (List Int)) (A1 : Option Addr) (c1 : Nat) (l1 : List (List Int)) (r : Bool) (w : World) (hr0 : Kd.C (Kd.slice 5 (Kd.int .u8)) w A0 l0.length l0) (hc0 : l0.length ≤ c0) (hr1 : Kd.C (Kd.slice 5 (Kd.int .u8)) w A1 l1.length l1) (hc1 : l1.length ≤ c1) (h : laws_eqByteSS.f k l0 l1 = some r) :
  Calls Try.prog 129 #[.slice A0 l0.length c0, .slice A1 l1.length c1] w fun e w' => e = .returned (.bool r) ∧ Drawn0 w w' := by
 have HR0 := Aside0.mk hr0
 have HC0 := Aside0.mk hc0
 clear hr0 hc0
 have HR1 := Aside0.mk hr1
 have HC1 := Aside0.mk hc1
 clear hr1 hc1
 have H : (if (l0.length : Int) = (l1.length : Int) then (laws_eqByteSS.l0 k l0 l1 0) else (some false)) = some r := h
 clear h
 by_cases c3 : (l0.length : Int) = (l1.length : Int)
 ·rw [if_pos c3] at H
  have c3b0 : ((l0.length : Int) == (l1.length : Int)) = true := beq_iff_eq.mpr c3
  have c3b1 : ((l0.length : Int) != (l1.length : Int)) = false := bne_eq_false_iff_eq.mpr c3
  have c3b2 : (l0.length == l1.length) = true := by first | simpa using c3 | (simp at c3 ⊢; omega)
  clear c3
  have H' := Aside0.mk H
  clear H
  go_enter Try.func129, Try.ntmps129
  go_wp2
  repeat (go_quiet (fail); try go_wp2)
  go_loopg [5] k (fun kq v5 w' => ∃ (x5_1 : Int), v5 = .int .i64 x5_1 ∧ Aside0 (laws_eqByteSS.l0 kq l0 l1 x5_1 = some r) ∧ Aside0 (kq ≤ k) ∧ Drawn0 w w')
  case atStart => exact ⟨(0), (by first | rfl | (simp; done) | (simp [*]; done)), H', ⟨Nat.le_refl _⟩, by repeat (first | exact Drawn0.refl _ | apply Drawn0.step)⟩
  case round =>
   clear H'
   try clear c1
   try clear p2
   try clear c3
   try clear c3b0
   try clear c3b1
   try clear c3b2
   obtain ⟨x5_1, rfl, HA, HK1, ⟨m1, rfl⟩⟩ := hrel
   cases gk with
   | zero => exact absurd HA.out (by simp [laws_eqByteSS.l0])
   | succ k1 =>
    have H := HA.out
    clear HA
    simp only [laws_eqByteSS.l0] at H
    by_cases c4 : x5_1 < (l0.length : Int)
    ·rw [if_pos c4] at H
     have c4b0 : decide (x5_1 < (l0.length : Int)) = true := decide_eq_true c4
     clear c4
     by_cases c5 : 0 ≤ x5_1
     ·rw [if_pos c5] at H
      have c5b0 : decide (0 ≤ x5_1) = true := decide_eq_true c5
      clear c5
      by_cases c6 : x5_1 < (l1.length : Int)
      ·rw [if_pos c6] at H
       have c6b0 : decide (x5_1 < (l1.length : Int)) = true := decide_eq_true c6
       clear c6
       replace H := Option.bind_eq_some_iff.mp H
       obtain ⟨t363, A70, H⟩ := H
       replace H : (if t363 = true then (laws_eqByteSS.l0 k1 l0 l1 (wrap64 (x5_1 + 1))) else (some false)) = some r := H
       have A7 := Aside0.mk A70
       clear A70
       by_cases c8 : t363 = true
       ·subst c8
        rw [if_pos rfl] at H
        have H' := Aside0.mk H
        clear H
        have p361 : 0 ≤ (x5_1 : Int) := of_decide_eq_true as_
        have q361 : x5_1 < (l0.length : Int) := of_decide_eq_true as_
        obtain ⟨ad361, A361_0, c361_0, e361, hx361_0, hl361_0, hi361_0⟩ := at_L1 HR0.out x5_1 p361 q361
        cases e361
        have HR361_0 := Aside0.mk hi361_0
        have HC361_0 := Aside0.mk hl361_0
        clear hi361_0 hl361_0
        replace p361 := eq_true p361
        replace q361 := eq_true q361
        have p362 : 0 ≤ (x5_1 : Int) := of_decide_eq_true as_
        have q362 : x5_1 < (l1.length : Int) := of_decide_eq_true as_
        obtain ⟨ad362, A362_0, c362_0, e362, hx362_0, hl362_0, hi362_0⟩ := at_L1 HR1.out x5_1 p362 q362
        cases e362
        have HR362_0 := Aside0.mk hi362_0
        have HC362_0 := Aside0.mk hl362_0
        clear hi362_0 hl362_0
        replace p362 := eq_true p362
        replace q362 := eq_true q362
        go_wp2_with (first | (go_at_call 19; (with_reducible refine (laws_eqByteS.calls k1 _ _ (rd_L1 l0 x5_1) _ _ (rd_L1 l1 x5_1) true _ ?side1 ?side2 ?side3 ?side4 A7.out).mono ?_); (case side1 => exact cS_ HR361_0.out); (case side2 => exact HC361_0.out); (case side3 => exact cS_ HR362_0.out); (case side4 => exact HC362_0.out); rintro e w' ⟨rfl, ⟨nd, rfl⟩⟩; (try first | exact ⟨rfl, _, World.drewN_drewN _ _ _⟩ | exact ⟨rfl, _, Eq.trans (World.drewN_drewN _ _ _) (congrArg (World.drewN _) (Nat.add_assoc _ _ _))⟩)))
        repeat (go_quiet (first | (go_at_call 19; (with_reducible refine (laws_eqByteS.calls k1 _ _ (rd_L1 l0 x5_1) _ _ (rd_L1 l1 x5_1) true _ ?side1 ?side2 ?side3 ?side4 A7.out).mono ?_); (case side1 => exact cS_ HR361_0.out); (case side2 => exact HC361_0.out); (case side3 => exact cS_ HR362_0.out); (case side4 => exact HC362_0.out); rintro e w' ⟨rfl, ⟨nd, rfl⟩⟩; (try first | exact ⟨rfl, _, World.drewN_drewN _ _ _⟩ | exact ⟨rfl, _, Eq.trans (World.drewN_drewN _ _ _) (congrArg (World.drewN _) (Nat.add_assoc _ _ _))⟩))); try go_wp2_with (first | (go_at_call 19; (with_reducible refine (laws_eqByteS.calls k1 _ _ (rd_L1 l0 x5_1) _ _ (rd_L1 l1 x5_1) true _ ?side1 ?side2 ?side3 ?side4 A7.out).mono ?_); (case side1 => exact cS_ HR361_0.out); (case side2 => exact HC361_0.out); (case side3 => exact cS_ HR362_0.out); (case side4 => exact HC362_0.out); rintro e w' ⟨rfl, ⟨nd, rfl⟩⟩; (try first | exact ⟨rfl, _, World.drewN_drewN _ _ _⟩ | exact ⟨rfl, _, Eq.trans (World.drewN_drewN _ _ _) (congrArg (World.drewN _) (Nat.add_assoc _ _ _))⟩))))
        go_roundg k1
        case measure => have := HK1.out; omega
        case rel => exact ⟨(wrap64 (x5_1 + 1)), (by first | rfl | (simp; done) | (simp [*]; done)), H', ⟨by have := HK1.out; omega⟩, by repeat (first | exact Drawn0.refl _ | apply Drawn0.step)⟩
       ·replace c8 := Bool.eq_false_iff.mpr c8
        subst c8
        rw [if_neg (show ¬ (false = true) by decide)] at H
        obtain rfl := Option.some.inj H
        have p361 : 0 ≤ (x5_1 : Int) := of_decide_eq_true as_
        have q361 : x5_1 < (l0.length : Int) := of_decide_eq_true as_
        obtain ⟨ad361, A361_0, c361_0, e361, hx361_0, hl361_0, hi361_0⟩ := at_L1 HR0.out x5_1 p361 q361
        cases e361
        have HR361_0 := Aside0.mk hi361_0
        have HC361_0 := Aside0.mk hl361_0
        clear hi361_0 hl361_0
        replace p361 := eq_true p361
        replace q361 := eq_true q361
        have p362 : 0 ≤ (x5_1 : Int) := of_decide_eq_true as_
        have q362 : x5_1 < (l1.length : Int) := of_decide_eq_true as_
        obtain ⟨ad362, A362_0, c362_0, e362, hx362_0, hl362_0, hi362_0⟩ := at_L1 HR1.out x5_1 p362 q362
        cases e362
        have HR362_0 := Aside0.mk hi362_0
        have HC362_0 := Aside0.mk hl362_0
        clear hi362_0 hl362_0
        replace p362 := eq_true p362
        replace q362 := eq_true q362
        go_wp2_with (first | (go_at_call 19; (with_reducible refine (laws_eqByteS.calls k1 _ _ (rd_L1 l0 x5_1) _ _ (rd_L1 l1 x5_1) false _ ?side1 ?side2 ?side3 ?side4 A7.out).mono ?_); (case side1 => exact cS_ HR361_0.out); (case side2 => exact HC361_0.out); (case side3 => exact cS_ HR362_0.out); (case side4 => exact HC362_0.out); rintro e w' ⟨rfl, ⟨nd, rfl⟩⟩; (try first | exact ⟨rfl, _, World.drewN_drewN _ _ _⟩ | exact ⟨rfl, _, Eq.trans (World.drewN_drewN _ _ _) (congrArg (World.drewN _) (Nat.add_assoc _ _ _))⟩)))
        repeat (go_quiet (first | (go_at_call 19; (with_reducible refine (laws_eqByteS.calls k1 _ _ (rd_L1 l0 x5_1) _ _ (rd_L1 l1 x5_1) false _ ?side1 ?side2 ?side3 ?side4 A7.out).mono ?_); (case side1 => exact cS_ HR361_0.out); (case side2 => exact HC361_0.out); (case side3 => exact cS_ HR362_0.out); (case side4 => exact HC362_0.out); rintro e w' ⟨rfl, ⟨nd, rfl⟩⟩; (try first | exact ⟨rfl, _, World.drewN_drewN _ _ _⟩ | exact ⟨rfl, _, Eq.trans (World.drewN_drewN _ _ _) (congrArg (World.drewN _) (Nat.add_assoc _ _ _))⟩))); try go_wp2_with (first | (go_at_call 19; (with_reducible refine (laws_eqByteS.calls k1 _ _ (rd_L1 l0 x5_1) _ _ (rd_L1 l1 x5_1) false _ ?side1 ?side2 ?side3 ?side4 A7.out).mono ?_); (case side1 => exact cS_ HR361_0.out); (case side2 => exact HC361_0.out); (case side3 => exact cS_ HR362_0.out); (case side4 => exact HC362_0.out); rintro e w' ⟨rfl, ⟨nd, rfl⟩⟩; (try first | exact ⟨rfl, _, World.drewN_drewN _ _ _⟩ | exact ⟨rfl, _, Eq.trans (World.drewN_drewN _ _ _) (congrArg (World.drewN _) (Nat.add_assoc _ _ _))⟩))))
        go_ret
        exact ⟨by first | rfl | (simp; done) | (simp [*]; done), by repeat (first | exact Drawn0.refl _ | apply Drawn0.step)⟩
      ·rw [if_neg c6] at H
       exact absurd H (by simp)
     ·rw [if_neg c5] at H
      exact absurd H (by simp)
    ·rw [if_neg c4] at H
     have c4b0 : decide (x5_1 < (l0.length : Int)) = false := decide_eq_false c4
     clear c4
     obtain rfl := Option.some.inj H
     go_wp2
     repeat (go_quiet (fail); try go_wp2)
     go_ret
     exact ⟨by first | rfl | (simp; done) | (simp [*]; done), by repeat (first | exact Drawn0.refl _ | apply Drawn0.step)⟩
 ·rw [if_neg c3] at H
  have c3b0 : ((l0.length : Int) == (l1.length : Int)) = false := beq_eq_false_iff_ne.mpr c3
  have c3b1 : ((l0.length : Int) != (l1.length : Int)) = true := bne_iff_ne.mpr c3
  have c3b2 : (l0.length == l1.length) = false := by first | simpa using c3 | (simp at c3 ⊢; omega)
  obtain rfl := Option.some.inj H
  go_enter Try.func129, Try.ntmps129
  go_wp2
  repeat (go_quiet (fail); try go_wp2)
  go_ret
  exact ⟨by first | rfl | (simp; done) | (simp [*]; done), by repeat (first | exact Drawn0.refl _ | apply Drawn0.step)⟩
end Go.Proofs.Ytmkcbbbknbahgaa.P
