/- This text proves the given statement of the law FnExactLogRecords: for every input the law returns true and its arguments read afterwards as before. Conditions: those of the given row and no other. -/
import Derived.Test.YtnjambhlblngcaaDoorCFnExactLogRecords1
import Derived.Lib.IndexMore
import Derived.Lib.ItoaNum
import Derived.Lib.IndexAny
import Derived.Test.YtnjambhlblngcaaDoorRows
import Derived.Test.YtnjambhlblngcaaDoorCards
import Derived.Test.YtnjambhlblngcaaDoorTie
import Derived.WalkKit
import Derived.ProofKit
import Derived.OpenShut
import Derived.ShutString
import Derived.ChangeOld
import Derived.Below
import Derived.SizedLaws
import Derived.Deep.DeepHandedRow
import Derived.Lib.LaidTab
namespace Go.Proofs.YtnjambhlblngcaaDoor.P
open Go.RowKit Go.Proofs.YtnjambhlblngcaaDoorW.PrintWords Go.Proofs.YtnjambhlblngcaaDoorW.PrintLast Go.Proofs.YtnjambhlblngcaaDoorW.PrintMore
attribute [local go_sem] max2_int min2_int max_two min_two max_three min_three max_four min_four   -- for this text's walks alone
set_option linter.unusedVariables false
set_option linter.unusedSimpArgs false

def laws_markLogRecordS.l0 : Nat → List (S27) → Int → Int → Option (Int × (List (S27)))
  | 0, _, _, _ => none
  | k + 1, x0, x1, x5 => if x5 < (x0.length : Int) then ((laws_markText.f k x1).bind fun t399 => (if 0 ≤ x5 then ((some (x0.set (x5 : Int).toNat (⟨t399, (rd_T27 x0 x5).f1⟩ : S27) : List (S27))).bind fun y400 => ((laws_markText.f k (wrap64 (x1 + 1))).bind fun t401 => (laws_markLogRecordS.l0 k (y400.set (x5 : Int).toNat (⟨(rd_T27 y400 x5).f0, t401⟩ : S27)) (wrap64 ((wrap64 (x1 + 1)) + 1)) (wrap64 (x5 + 1))))) else (none))) else (some (x1, x0))

def laws_markLogRecordS.f (k : Nat) (l0 : List (S27)) (a1 : Int) : Option (Int × (List (S27))) := laws_markLogRecordS.l0 k l0 a1 0

set_option maxHeartbeats 8000000 in
set_option maxRecDepth 100000 in
theorem laws_markLogRecordS.calls (k : Nat) (P0_ : Nat → Prop) (u9000_ : Value) (l0 : List (S27)) (a1 : Int) (r1 : Int) (r2 : List (S27)) (w0 w : World) (hB : Below w0.heap.size w0 w) (ho0 : Kd.R k27 27 w w0.heap.size P0_ u9000_ l0) (h : laws_markLogRecordS.f k l0 a1 = some (r1, r2)) :
    Calls Tryd.prog 30 #[u9000_, .int .i64 a1] w fun e w' => e = .returned (.int .i64 r1) ∧ Kd.R k27 27 w' w0.heap.size (fun k_ => (P0_ k_ ∨ w.heap.size ≤ k_)) u9000_ r2 ∧ Below w0.heap.size w0 w' ∧ Kept w w' (fun k_ => P0_ k_) := by
  have HO0 := Aside0.mk (show Kd.R k27 27 w w0.heap.size (fun k_ => (P0_ k_ ∨ w.heap.size ≤ k_)) u9000_ l0 from Kd.R_mono ho0 (fun k_ hk => (.inl hk)))
  have HK := Aside0.mk (Kept.refl w (fun k_ => P0_ k_))
  have HW0 := Aside0.mk hB.size
  have HB := Aside0.mk hB
  clear hB
  have H : (laws_markLogRecordS.l0 k l0 a1 0) = some (r1, r2) := h
  clear h
  have H' := Aside0.mk H
  clear H
  go_enter Tryd.func30, Tryd.ntmps30
  go_wp2
  go_loopg [1, 5] k (fun kq v1 v5 w' => ∃ (x0_1 : List (S27)) (x1_1 : Int) (x5_1 : Int), v1 = .int .i64 x1_1 ∧ v5 = .int .i64 x5_1 ∧ Aside0 (laws_markLogRecordS.l0 kq x0_1 x1_1 x5_1 = some (r1, r2)) ∧ Aside0 (kq ≤ k) ∧ Aside0 (Kd.R k27 27 w' w0.heap.size (fun k_ => (P0_ k_ ∨ w.heap.size ≤ k_)) u9000_ x0_1) ∧ Aside0 (Kept w w' (fun k_ => P0_ k_)) ∧ Aside0 (Below w0.heap.size w0 w'))
  case atStart => exact ⟨(l0), (a1), (0), (by first | rfl | (simp; done) | (simp [*]; done)), (by first | rfl | (simp; done) | (simp [*]; done)), H', ⟨Nat.le_refl _⟩, ⟨by (with_reducible repeat (first | apply Kd.R_alloc | apply Kd.R_drewN | apply Kd.R_drew)); exact HO0.out⟩, ⟨by repeat (first | (with_reducible first | exact HK.out | apply Kept.alloc | apply Kept.drewN | apply Kept.drew) | exact HK.out)⟩, ⟨by repeat (first | (with_reducible first | exact HB.out | apply below_alloc | apply pw_below_drewN | apply below_drew1) | exact HB.out)⟩⟩
  case round =>
    clear H'
    try clear p2
    obtain ⟨x0_1, x1_1, x5_1, rfl, rfl, HA, HK1, HO_0, HK, HB⟩ := hrel
    cases gk with
    | zero => exact absurd HA.out (by simp [laws_markLogRecordS.l0])
    | succ k1 =>
      have H := HA.out
      clear HA
      simp only [laws_markLogRecordS.l0] at H
      by_cases c3 : x5_1 < (x0_1.length : Int)
      · rw [if_pos c3] at H
        have c3b0 : decide (x5_1 < (x0_1.length : Int)) = true := decide_eq_true c3
        clear c3
        replace H := Option.bind_eq_some_iff.mp H
        obtain ⟨t399, A40, H⟩ := H
        replace H : (if 0 ≤ x5_1 then ((some (x0_1.set (x5_1 : Int).toNat (⟨t399, (rd_T27 x0_1 x5_1).f1⟩ : S27) : List (S27))).bind fun y400 => ((laws_markText.f k1 (wrap64 (x1_1 + 1))).bind fun t401 => (laws_markLogRecordS.l0 k1 (y400.set (x5_1 : Int).toNat (⟨(rd_T27 y400 x5_1).f0, t401⟩ : S27)) (wrap64 ((wrap64 (x1_1 + 1)) + 1)) (wrap64 (x5_1 + 1))))) else (none)) = some (r1, r2) := H
        have A4 := Aside0.mk A40
        clear A40
        by_cases c5 : 0 ≤ x5_1
        · rw [if_pos c5] at H
          have c5b0 : decide (0 ≤ x5_1) = true := decide_eq_true c5
          clear c5
          obtain ⟨y400, hy400⟩ : ∃ y_ : List (S27), y_ = (x0_1.set (x5_1 : Int).toNat (⟨t399, (rd_T27 x0_1 x5_1).f1⟩ : S27)) := ⟨_, rfl⟩
          replace H : ((laws_markText.f k1 (wrap64 (x1_1 + 1))).bind fun t401 => (laws_markLogRecordS.l0 k1 (y400.set (x5_1 : Int).toNat (⟨(rd_T27 y400 x5_1).f0, t401⟩ : S27)) (wrap64 ((wrap64 (x1_1 + 1)) + 1)) (wrap64 (x5_1 + 1)))) = some (r1, r2) := by first | (rw [hy400]; with_reducible exact H) | (have H2_ := (Option.bind_some _ _).symm.trans H; rw [hy400]; with_reducible exact H2_) | (have H2_ := (Option.bind_some _ _).symm.trans H; with_reducible exact H2_) | with_reducible exact H | (rw [hy400]; exact H) | exact H
          have Ny400 := Aside0.mk hy400
          clear hy400
          replace H := Option.bind_eq_some_iff.mp H
          obtain ⟨t401, A70, H⟩ := H
          replace H : (laws_markLogRecordS.l0 k1 (y400.set (x5_1 : Int).toNat (⟨(rd_T27 y400 x5_1).f0, t401⟩ : S27)) (wrap64 ((wrap64 (x1_1 + 1)) + 1)) (wrap64 (x5_1 + 1))) = some (r1, r2) := H
          have A7 := Aside0.mk A70
          clear A70
          obtain ⟨y402, hy402⟩ : ∃ y_ : List (S27), y_ = (y400.set (x5_1 : Int).toNat (⟨(rd_T27 y400 x5_1).f0, t401⟩ : S27)) := ⟨_, rfl⟩
          replace H : (laws_markLogRecordS.l0 k1 y402 (wrap64 ((wrap64 (x1_1 + 1)) + 1)) (wrap64 (x5_1 + 1))) = some (r1, r2) := by first | (rw [hy402]; with_reducible exact H) | (have H2_ := (Option.bind_some _ _).symm.trans H; rw [hy402]; with_reducible exact H2_) | (have H2_ := (Option.bind_some _ _).symm.trans H; with_reducible exact H2_) | with_reducible exact H | (rw [hy402]; exact H) | exact H
          have Ny402 := Aside0.mk hy402
          clear hy402
          have H' := Aside0.mk H
          clear H
          obtain ⟨Ao9, co9, eo9⟩ := Kd.R_slice HO_0.out
          subst eo9
          go_wp2_with (first | ((with_reducible refine gate_callee (f := 44) rfl ?_); refine goesL_ (some 15) rfl rfl Tryd.func44 (by kernel_rfl) rfl #[.int .i64 x1_1] rfl (by (try simp only [List.map_toArray, List.map_cons, List.map_nil]); first | done | rfl | (simp only [List.length_drop, List.length_take]; rfl)) ?_; (with_reducible refine (laws_markText.calls k1 x1_1 t399 _ A4.out).mono ?_); rintro e w10 ⟨rfl, hb⟩; refine ⟨_, rfl, ?_⟩; have n0_ := Aside0.mk (Kd.R_below (by (with_reducible repeat (first | apply Kd.R_alloc | apply Kd.R_drewN | apply Kd.R_drew)); exact HO_0.out) hb); have n1_ := Aside0.mk (Kept.below (S := (fun k_ => P0_ k_)) (by repeat (first | (with_reducible first | exact HK.out | apply Kept.alloc | apply Kept.drewN | apply Kept.drew) | exact HK.out)) hb); have n2_ := Aside0.mk (below_step (by repeat (first | (with_reducible first | exact HB.out | apply below_alloc | apply pw_below_drewN | apply below_drew1) | exact HB.out)) hb); clear HO_0; clear HK; clear HB; have HO_0 := n0_; have HK := n1_; have HB := n2_; clear n0_ n1_ n2_; (try clear hb); (try clear hb2); (try clear hk); (try clear hi); have p6 : 0 ≤ (x5_1 : Int) := of_decide_eq_true (by first | (with_reducible assumption) | assumption); have q6 : (x5_1 : Int) < ((x0_1.length : Int) : Int) := of_decide_eq_true (by first | (with_reducible assumption) | assumption); obtain ⟨go6, co6, eo6, gb6, gl6, cl6, HG6⟩ := Kd.R_form HO_0.out (by omega); (first | cases eo6 | (injection eo6 with ea_ en_ ec_; (first | subst ea_ | (injection ea_ with ea_; subst ea_)); subst ec_; clear en_)); have GB6 := Aside0.mk gb6; have GG6 := Aside0.mk HG6; clear gb6 gl6 HG6; have HMgo6 := Aside0.mk (show (P0_ go6 ∨ w.heap.size ≤ go6) from (HO_0.out.1 _ rfl)); obtain ⟨ce6, hcl6, hM6, hcc6, hfr6⟩ := Kd.R_elem HO_0.out z27 (x5_1 : Int) p6 q6; obtain rfl := k27_openM hM6; have hx6_0 : w10.cell? ⟨go6, (x5_1 : Int).toNat * 2, none⟩ = some (.string ((rd_T27 x0_1 x5_1).f0)) := hcc6 0 _ rfl; have hx6_1 : w10.cell? ⟨go6, (x5_1 : Int).toNat * 2 + 1, none⟩ = some (.string ((rd_T27 x0_1 x5_1).f1)) := hcc6 1 _ rfl; have hf6_0 : w10.frozen? ⟨go6, (x5_1 : Int).toNat * 2, none⟩ = false := hfr6 0; have hf6_1 : w10.frozen? ⟨go6, (x5_1 : Int).toNat * 2 + 1, none⟩ = false := hfr6 1; clear hcl6 hcc6 hfr6; (try clear hM6); replace p6 := eq_true p6; replace q6 := eq_true q6; have HX11 := Aside0.mk (show Kd.R k27 27 w10 w0.heap.size (fun k_ => (P0_ k_ ∨ w.heap.size ≤ k_)) (.slice (some ⟨go6, 0, none⟩) x0_1.length co9) x0_1 from (by (with_reducible repeat (first | apply Kd.R_alloc | apply Kd.R_drewN | apply Kd.R_drew)); exact HO_0.out)); obtain ⟨ce11, hcl11, hM11, hcc11, hfr11⟩ := Kd.R_elem HX11.out z27 (x5_1 : Int) (of_decide_eq_true (by first | (with_reducible assumption) | assumption)) (by have h_ : (x5_1 : Int) < ((x0_1.length : Int) : Int) := of_decide_eq_true (by first | (with_reducible assumption) | assumption); first | exact h_ | (have e_ := (Kd.R_reads' HO_0.out).1; omega) | simpa using h_); obtain rfl := k27_openM hM11; have HP11 := Kd.R_seg HX11.out (x5_1 : Int) (of_decide_eq_true (by first | (with_reducible assumption) | assumption)) (by have h_ : (x5_1 : Int) < ((x0_1.length : Int) : Int) := of_decide_eq_true (by first | (with_reducible assumption) | assumption); first | exact h_ | (have e_ := (Kd.R_reads' HO_0.out).1; omega) | simpa using h_) (seg := [.string t399]) (j := 0) hcl11 hcc11 (show 1 ≤ 2 from by decide) (x' := (⟨t399, (rd_T27 x0_1 x5_1).f1⟩ : S27)) (k27_mkM _ _ _ (⟨t399, (rd_T27 x0_1 x5_1).f1⟩ : S27) ) (fun _ hk => hk); have hx11_0 := hcc11 0 _ rfl; (try simp only [show (k27).sz = 2 from rfl, Nat.mul_one, Nat.add_zero] at hx11_0); have hf11_0 := hfr11 0; (try simp only [show (k27).sz = 2 from rfl, Nat.mul_one, Nat.add_zero] at hf11_0); clear hcl11 hcc11 hfr11; (try clear hM11)) | ((with_reducible refine gate_store (t := 9) (p := 17) rfl ?_); refine store_event (t := 9) (p := 17) (v := ?vo_w12) (w1 := (w10.setCell ⟨go6, (x5_1 : Int).toNat * 2, none⟩ (.string t399))) ?hg ?ho ?hn ?hr ?_; (case ho => rfl); (case hg => rfl); (case hn => rfl); (case hr => first | (go_simp; done) | (go_simp; rfl)); intro w12 hw; have hg : w10.grownBy w12 (some go6) := (by rw [hw]; exact HP11.2); have hp_ : Kd.R k27 27 w12 w0.heap.size (fun k_ => (P0_ k_ ∨ w.heap.size ≤ k_)) (.slice (some ⟨go6, 0, none⟩) x0_1.length co9) y400 := (by rw [hw, Ny400.out]; exact HP11.1); clear HP11; have n0_ := Aside0.mk (hp_); have n1_ := Aside0.mk ((by rw [hw]; exact below_set (HB.out) GB6.out : Below w0.heap.size w0 w12)); have n2_ := Aside0.mk (Kept.of_grown (S := (fun k_ => P0_ k_)) hg (by repeat (first | (with_reducible first | exact HK.out | apply Kept.alloc | apply Kept.drewN | apply Kept.drew) | exact HK.out)) (fun k_ e_ => (HO_0.out.1 k_ e_))); clear HO_0; clear HB; clear HK; have HO_0 := n0_; have HB := n1_; have HK := n2_; clear n0_ n1_ n2_; clear hg hw hp_) | ((with_reducible refine gate_callee (f := 44) rfl ?_); refine goesL_ (some 23) rfl rfl Tryd.func44 (by kernel_rfl) rfl #[.int .i64 (wrap64 (x1_1 + 1))] rfl (by (try simp only [List.map_toArray, List.map_cons, List.map_nil]); first | done | rfl | (simp only [List.length_drop, List.length_take]; rfl)) ?_; (with_reducible refine (laws_markText.calls k1 (wrap64 (x1_1 + 1)) t401 _ A7.out).mono ?_); rintro e w13 ⟨rfl, hb⟩; refine ⟨_, rfl, ?_⟩; have n0_ := Aside0.mk (Kd.R_below (by (with_reducible repeat (first | apply Kd.R_alloc | apply Kd.R_drewN | apply Kd.R_drew)); exact HO_0.out) hb); have n1_ := Aside0.mk (Kept.below (S := (fun k_ => P0_ k_)) (by repeat (first | (with_reducible first | exact HK.out | apply Kept.alloc | apply Kept.drewN | apply Kept.drew) | exact HK.out)) hb); have n2_ := Aside0.mk (below_step (by repeat (first | (with_reducible first | exact HB.out | apply below_alloc | apply pw_below_drewN | apply below_drew1) | exact HB.out)) hb); clear HO_0; clear HK; clear HB; have HO_0 := n0_; have HK := n1_; have HB := n2_; clear n0_ n1_ n2_; (try clear hb); (try clear hb2); (try clear hk); (try clear hi); have p8 : 0 ≤ (x5_1 : Int) := of_decide_eq_true (by first | (with_reducible assumption) | assumption); have q8 : (x5_1 : Int) < ((x0_1.length : Int) : Int) := of_decide_eq_true (by first | (with_reducible assumption) | assumption); obtain ⟨ce8, hcl8, hM8, hcc8, hfr8⟩ := Kd.R_elem HO_0.out z27 (x5_1 : Int) p8 q8; obtain rfl := k27_openM hM8; have hx8_0 : w13.cell? ⟨go6, (x5_1 : Int).toNat * 2, none⟩ = some (.string ((rd_T27 y400 x5_1).f0)) := hcc8 0 _ rfl; have hx8_1 : w13.cell? ⟨go6, (x5_1 : Int).toNat * 2 + 1, none⟩ = some (.string ((rd_T27 y400 x5_1).f1)) := hcc8 1 _ rfl; have hf8_0 : w13.frozen? ⟨go6, (x5_1 : Int).toNat * 2, none⟩ = false := hfr8 0; have hf8_1 : w13.frozen? ⟨go6, (x5_1 : Int).toNat * 2 + 1, none⟩ = false := hfr8 1; clear hcl8 hcc8 hfr8; (try clear hM8); replace p8 := eq_true p8; replace q8 := eq_true q8; have HX14 := Aside0.mk (show Kd.R k27 27 w13 w0.heap.size (fun k_ => (P0_ k_ ∨ w.heap.size ≤ k_)) (.slice (some ⟨go6, 0, none⟩) x0_1.length co9) y400 from (by (with_reducible repeat (first | apply Kd.R_alloc | apply Kd.R_drewN | apply Kd.R_drew)); exact HO_0.out)); obtain ⟨ce14, hcl14, hM14, hcc14, hfr14⟩ := Kd.R_elem HX14.out z27 (x5_1 : Int) (of_decide_eq_true (by first | (with_reducible assumption) | assumption)) (by have h_ : (x5_1 : Int) < ((x0_1.length : Int) : Int) := of_decide_eq_true (by first | (with_reducible assumption) | assumption); first | exact h_ | (have e_ := (Kd.R_reads' HO_0.out).1; omega) | simpa using h_); obtain rfl := k27_openM hM14; have HP14 := Kd.R_seg HX14.out (x5_1 : Int) (of_decide_eq_true (by first | (with_reducible assumption) | assumption)) (by have h_ : (x5_1 : Int) < ((x0_1.length : Int) : Int) := of_decide_eq_true (by first | (with_reducible assumption) | assumption); first | exact h_ | (have e_ := (Kd.R_reads' HO_0.out).1; omega) | simpa using h_) (seg := [.string t401]) (j := 1) hcl14 hcc14 (show 2 ≤ 2 from by decide) (x' := (⟨(rd_T27 y400 x5_1).f0, t401⟩ : S27)) (k27_mkM _ _ _ (⟨(rd_T27 y400 x5_1).f0, t401⟩ : S27) ) (fun _ hk => hk); have hx14_1 := hcc14 1 _ rfl; (try simp only [show (k27).sz = 2 from rfl, Nat.mul_one, Nat.add_zero] at hx14_1); have hf14_1 := hfr14 1; (try simp only [show (k27).sz = 2 from rfl, Nat.mul_one, Nat.add_zero] at hf14_1); clear hcl14 hcc14 hfr14; (try clear hM14)) | ((with_reducible refine gate_store (t := 9) (p := 25) rfl ?_); refine store_event (t := 9) (p := 25) (v := ?vo_w15) (w1 := (w13.setCell ⟨go6, (x5_1 : Int).toNat * 2 + 1, none⟩ (.string t401))) ?hg ?ho ?hn ?hr ?_; (case ho => rfl); (case hg => rfl); (case hn => rfl); (case hr => first | (go_simp; done) | (go_simp; rfl)); intro w15 hw; have hg : w13.grownBy w15 (some go6) := (by rw [hw]; exact HP14.2); have hp_ : Kd.R k27 27 w15 w0.heap.size (fun k_ => (P0_ k_ ∨ w.heap.size ≤ k_)) (.slice (some ⟨go6, 0, none⟩) x0_1.length co9) y402 := (by rw [hw, Ny402.out]; exact HP14.1); clear HP14; have n0_ := Aside0.mk (hp_); have n1_ := Aside0.mk ((by rw [hw]; exact below_set (HB.out) GB6.out : Below w0.heap.size w0 w15)); have n2_ := Aside0.mk (Kept.of_grown (S := (fun k_ => P0_ k_)) hg (by repeat (first | (with_reducible first | exact HK.out | apply Kept.alloc | apply Kept.drewN | apply Kept.drew) | exact HK.out)) (fun k_ e_ => (HO_0.out.1 k_ e_))); clear HO_0; clear HB; clear HK; have HO_0 := n0_; have HB := n1_; have HK := n2_; clear n0_ n1_ n2_; clear hg hw hp_))
          go_roundg k1
          case measure => have := HK1.out; omega
          case rel => exact ⟨(y402), (wrap64 ((wrap64 (x1_1 + 1)) + 1)), (wrap64 (x5_1 + 1)), (by first | rfl | (simp; done) | (simp [*]; done)), (by first | rfl | (simp; done) | (simp [*]; done)), H', ⟨by have := HK1.out; omega⟩, ⟨by (with_reducible repeat (first | apply Kd.R_alloc | apply Kd.R_drewN | apply Kd.R_drew)); exact HO_0.out⟩, ⟨by repeat (first | (with_reducible first | exact HK.out | apply Kept.alloc | apply Kept.drewN | apply Kept.drew) | exact HK.out)⟩, ⟨by repeat (first | (with_reducible first | exact HB.out | apply below_alloc | apply pw_below_drewN | apply below_drew1) | exact HB.out)⟩⟩
        · rw [if_neg c5] at H
          exact absurd H (by simp)
      · rw [if_neg c3] at H
        have c3b0 : decide (x5_1 < (x0_1.length : Int)) = false := decide_eq_false c3
        clear c3
        simp only [Option.some.injEq, Prod.mk.injEq] at H
        obtain ⟨rfl, rfl⟩ := H
        obtain ⟨Ao16, co16, eo16⟩ := Kd.R_slice HO_0.out
        subst eo16
        go_wp2
        go_ret
        exact ⟨by first | rfl | (simp [errW_none, errW_some] <;> rfl) | (simp [*, errW_none, errW_some] <;> rfl), by (with_reducible repeat (first | apply Kd.R_alloc | apply Kd.R_drewN | apply Kd.R_drew)); exact HO_0.out, by repeat (first | (with_reducible first | exact HB.out | apply below_alloc | apply pw_below_drewN | apply below_drew1) | exact HB.out), by repeat (first | (with_reducible first | exact HK.out | apply Kept.alloc | apply Kept.drewN | apply Kept.drew) | exact HK.out)⟩
end Go.Proofs.YtnjambhlblngcaaDoor.P
namespace Go.Proofs.YtnjambhlblngcaaDoor.P
open Go.RowKit Go.Proofs.YtnjambhlblngcaaDoorW.PrintWords Go.Proofs.YtnjambhlblngcaaDoorW.PrintLast Go.Proofs.YtnjambhlblngcaaDoorW.PrintMore
attribute [local go_sem] max2_int min2_int max_two min_two max_three min_three max_four min_four   -- for this text's walks alone
set_option linter.unusedVariables false
set_option linter.unusedSimpArgs false

def laws_heldLogRecordS.l0 : Nat → List (S27) → Int → Int → Option (Int)
  | 0, _, _, _ => none
  | k + 1, x0, x1, x5 => if x5 < (x0.length : Int) then (if 0 ≤ x5 then ((laws_markText.f k x1).bind fun t404 => (if ((rd_T27 x0 x5).f0).toList = t404.toList then ((laws_markText.f k (wrap64 (x1 + 1))).bind fun t406 => (if ((rd_T27 x0 x5).f1).toList = t406.toList then (laws_heldLogRecordS.l0 k x0 (wrap64 ((wrap64 (x1 + 1)) + 1)) (wrap64 (x5 + 1))) else (some (-1)))) else (some (-1)))) else (none)) else (some x1)

def laws_heldLogRecordS.f (k : Nat) (l0 : List (S27)) (a1 : Int) : Option (Int) := laws_heldLogRecordS.l0 k l0 a1 0

def laws_heldLogRecordS.T4 : Bool × List (List Nat × List Nat) := (true, [([], []), ([], []), ([0, 1], [0, 1]), ([2], [2]), ([3], [3]), ([], []), ([5], [5]), ([4, 6], [4, 6])])

def laws_heldLogRecordS.B4 : List Nat := [0, 0, 3, 7, 15, 0, 32, 127]

theorem laws_heldLogRecordS.tab4 : rtab .any (opsOf Tryd.f31 4) = laws_heldLogRecordS.T4 := by kernel_rfl

theorem laws_heldLogRecordS.bits4 : waitsOk laws_heldLogRecordS.T4.2 laws_heldLogRecordS.B4 = true := by kernel_rfl

def laws_heldLogRecordS.T7 : Bool × List (List Nat × List Nat) := (true, [([], []), ([], []), ([0, 1], [0, 1]), ([2], [2]), ([3], [3]), ([], []), ([5], [5]), ([4, 6], [4, 6])])

def laws_heldLogRecordS.B7 : List Nat := [0, 0, 3, 7, 15, 0, 32, 127]

theorem laws_heldLogRecordS.tab7 : rtab .any (opsOf Tryd.f31 7) = laws_heldLogRecordS.T7 := by kernel_rfl

theorem laws_heldLogRecordS.bits7 : waitsOk laws_heldLogRecordS.T7.2 laws_heldLogRecordS.B7 = true := by kernel_rfl

set_option maxHeartbeats 8000000 in
set_option maxRecDepth 100000 in
theorem laws_heldLogRecordS.calls (k : Nat) (A0 : Option Addr) (c0 : Nat) (l0 : List (S27)) (a1 : Int) (r : Int) (w : World) (hr0 : Kd.C k27 w A0 l0.length l0) (hc0 : l0.length ≤ c0) (h : laws_heldLogRecordS.f k l0 a1 = some r) :
    Calls Tryd.prog 31 #[.slice A0 l0.length c0, .int .i64 a1] w fun e w' => e = .returned (.int .i64 r) ∧ Below w.heap.size w w' := by
  have HR0 := Aside0.mk hr0
  have HC0 := Aside0.mk hc0
  clear hr0 hc0
  have HB := Aside0.mk (Below.refl w.heap.size w)
  have H : (laws_heldLogRecordS.l0 k l0 a1 0) = some r := h
  clear h
  have H' := Aside0.mk H
  clear H
  go_enter Tryd.func31, Tryd.ntmps31
  go_wp2
  go_loopg [1, 5] k (fun kq v1 v5 w' => ∃ (x1_1 : Int) (x5_1 : Int), v1 = .int .i64 x1_1 ∧ v5 = .int .i64 x5_1 ∧ Aside0 (laws_heldLogRecordS.l0 kq l0 x1_1 x5_1 = some r) ∧ Aside0 (kq ≤ k) ∧ Aside0 (Below w.heap.size w w'))
  case atStart => exact ⟨(a1), (0), (by first | rfl | (simp; done) | (simp [*]; done)), (by first | rfl | (simp; done) | (simp [*]; done)), H', ⟨Nat.le_refl _⟩, ⟨by repeat (first | (with_reducible first | exact HB.out | apply below_alloc | apply pw_below_drewN | apply below_drew1) | exact HB.out)⟩⟩
  case round =>
    clear H'
    try clear p2
    obtain ⟨x1_1, x5_1, rfl, rfl, HA, HK1, HB⟩ := hrel
    cases gk with
    | zero => exact absurd HA.out (by simp [laws_heldLogRecordS.l0])
    | succ k1 =>
      have H := HA.out
      clear HA
      simp only [laws_heldLogRecordS.l0] at H
      by_cases c3 : x5_1 < (l0.length : Int)
      · rw [if_pos c3] at H
        have c3b0 : decide (x5_1 < (l0.length : Int)) = true := decide_eq_true c3
        clear c3
        by_cases c4 : 0 ≤ x5_1
        · rw [if_pos c4] at H
          have c4b0 : decide (0 ≤ x5_1) = true := decide_eq_true c4
          clear c4
          replace H := Option.bind_eq_some_iff.mp H
          obtain ⟨t404, A50, H⟩ := H
          replace H : (if ((rd_T27 l0 x5_1).f0).toList = t404.toList then ((laws_markText.f k1 (wrap64 (x1_1 + 1))).bind fun t406 => (if ((rd_T27 l0 x5_1).f1).toList = t406.toList then (laws_heldLogRecordS.l0 k1 l0 (wrap64 ((wrap64 (x1_1 + 1)) + 1)) (wrap64 (x5_1 + 1))) else (some (-1)))) else (some (-1))) = some r := H
          have A5 := Aside0.mk A50
          clear A50
          by_cases c6 : ((rd_T27 l0 x5_1).f0).toList = t404.toList
          · rw [if_pos c6] at H
            have c6b0 : (((rd_T27 l0 x5_1).f0).toList == t404.toList) = true := beq_iff_eq.mpr c6
            have c6b1 : (((rd_T27 l0 x5_1).f0).toList != t404.toList) = false := bne_eq_false_iff_eq.mpr c6
            clear c6
            replace H := Option.bind_eq_some_iff.mp H
            obtain ⟨t406, A70, H⟩ := H
            replace H : (if ((rd_T27 l0 x5_1).f1).toList = t406.toList then (laws_heldLogRecordS.l0 k1 l0 (wrap64 ((wrap64 (x1_1 + 1)) + 1)) (wrap64 (x5_1 + 1))) else (some (-1))) = some r := H
            have A7 := Aside0.mk A70
            clear A70
            by_cases c8 : ((rd_T27 l0 x5_1).f1).toList = t406.toList
            · rw [if_pos c8] at H
              have c8b0 : (((rd_T27 l0 x5_1).f1).toList == t406.toList) = true := beq_iff_eq.mpr c8
              have c8b1 : (((rd_T27 l0 x5_1).f1).toList != t406.toList) = false := bne_eq_false_iff_eq.mpr c8
              clear c8
              have H' := Aside0.mk H
              clear H
              try go_wp2
              have n0_ := Aside0.mk (below_drew1 HB.out)
              clear HB
              have HB := n0_
              clear n0_
              have p403 : 0 ≤ (x5_1 : Int) := of_decide_eq_true (by first | (with_reducible assumption) | assumption)
              have q403 : x5_1 < (l0.length : Int) := of_decide_eq_true (by first | (with_reducible assumption) | assumption)
              obtain ⟨ad403, e403, hx403_0, hx403_1⟩ := at_T27 HR0.out x5_1 p403 q403
              have hw403_1 := hx403_1
              have hw403_0 := hx403_0
              cases e403
              replace hx403_0 := (HB.out.cell (World.block_lt_of_cell? w _ hx403_0)).trans hx403_0
              replace hx403_1 := (HB.out.cell (World.block_lt_of_cell? w _ hx403_1)).trans hx403_1
              replace p403 := eq_true p403
              replace q403 := eq_true q403
              refine start_ (n := 8) (S := fun w' => w'.cell? (ad403.add ((x5_1).toNat * 2)) = some (.string ((rd_T27 l0 x5_1).f0)) ∧ w'.cell? ⟨(ad403.add ((x5_1).toNat * 2)).block, (ad403.add ((x5_1).toNat * 2)).off + 1, none⟩ = some (.string ((rd_T27 l0 x5_1).f1))) (ds := []) #[false, false, false, false, false, false, false, false] (by kernel_rfl) rfl rfl ⟨((HB.out.cell (World.block_lt_of_cell? w _ hw403_0)).trans hw403_0), ((HB.out.cell (World.block_lt_of_cell? w _ hw403_1)).trans hw403_1)⟩ (fun hHeld => ?_); refine with_tabW laws_heldLogRecordS.tab4 laws_heldLogRecordS.bits4 (fun HT_ HW_ => ?_)
              generalize wr.drew = w9 at HB hx403_0 hx403_1 hHeld ⊢
              refine pure_ (i := 0) (N := some 12) (v := ?_) (a' := ?_) #[true, false, false, false, false, false, false, false] rfl rfl (any_of HT_.out (by kernel_rfl)) (fun _ _ _ h => h) (Or.inl ⟨by rfl, ?_⟩) ?_ ?_
              rotate_left
              · intro w'
                go_simp
                with_reducible rfl
              rotate_left
              · simp only [Act.put, List.setIfInBounds_toArray, List.set_cons_zero, List.set_cons_succ, i64_w, i32_w]
                rfl
              refine pure_ (i := 1) (N := some 13) (v := ?_) (a' := ?_) #[true, true, false, false, false, false, false, false] rfl rfl (any_of HT_.out (by kernel_rfl)) (fun _ _ _ h => h) (Or.inl ⟨by rfl, ?_⟩) ?_ ?_
              rotate_left
              · intro w'
                go_simp
                with_reducible rfl
              rotate_left
              · simp only [Act.put, List.setIfInBounds_toArray, List.set_cons_zero, List.set_cons_succ, i64_w, i32_w]
                rfl
              refine pure_ (i := 2) (N := some 14) (v := ?_) (a' := ?_) #[true, true, true, false, false, false, false, false] rfl rfl (any_of HT_.out (by kernel_rfl)) (fun _ _ _ h => h) (Or.inl ⟨by rfl, ?_⟩) ?_ ?_
              rotate_left
              · intro w'
                go_simp
                with_reducible rfl
              rotate_left
              · simp only [Act.put, List.setIfInBounds_toArray, List.set_cons_zero, List.set_cons_succ, i64_w, i32_w]
                rfl
              refine pure_ (i := 3) (N := some 15) (v := ?_) (a' := ?_) #[true, true, true, true, false, false, false, false] rfl rfl (any_of HT_.out (by kernel_rfl)) (fun _ _ _ h => h) (Or.inl ⟨by rfl, ?_⟩) ?_ ?_
              rotate_left
              · intro w'
                go_simp
                with_reducible rfl
              rotate_left
              · simp only [Act.put, List.setIfInBounds_toArray, List.set_cons_zero, List.set_cons_succ, i64_w, i32_w]
                rfl
              refine pure_ (i := 5) (N := some 17) (v := ?_) (a' := ?_) #[true, true, true, true, false, true, false, false] rfl rfl (any_of HT_.out (by kernel_rfl)) (fun _ _ _ h => h) (Or.inl ⟨by rfl, ?_⟩) ?_ ?_
              rotate_left
              · intro w'
                go_simp
                with_reducible rfl
              rotate_left
              · simp only [Act.put, List.setIfInBounds_toArray, List.set_cons_zero, List.set_cons_succ, i64_w, i32_w]
                rfl
              refine take_ (i := 4) (N := some 16) (v := ?_) (a' := ?_) #[true, true, true, true, true, true, false, false] rfl rfl (take_ofW HT_.out HW_.out (by kernel_rfl)) (fun _ _ _ h => h) (Or.inl ⟨by rfl, ?_⟩) hHeld ?_ ?_
              rotate_left
              · rintro w' ⟨s0, s1⟩
                go_simp
                with_reducible rfl
              rotate_left
              · simp only [Act.put, List.setIfInBounds_toArray, List.set_cons_zero, List.set_cons_succ, i64_w, i32_w]
                rfl
              refine one_ (i := 6) (N := some 18) #[true, true, true, true, true, true, true, false] rfl rfl (one_of HT_.out (by kernel_rfl)) (by decide) (fun K hK => ?_)
              refine goes_ Tryd.func44 (by kernel_rfl) rfl #[.int .i64 x1_1] (by rfl) rfl rfl (by (try simp only [List.map_toArray, List.map_cons, List.map_nil]); first | done | rfl | (simp only [List.length_drop, List.length_take]; rfl)) ?_
              with_reducible refine (laws_markText.calls k1 x1_1 t404 _ A5.out).mono ?_
              rintro e w10 ⟨rfl, hb⟩
              refine ⟨_, rfl, ?_⟩
              have n0_ := Aside0.mk (below_step (by repeat (first | (with_reducible first | exact HB.out | apply below_alloc | apply pw_below_drewN | apply below_drew1) | exact HB.out)) hb)
              clear HB
              have HB := n0_
              clear n0_
              (try clear hb)
              (try clear hb2)
              (try clear hk)
              (try clear hi)
              refine hK.out _ _ ⟨((HB.out.cell (World.block_lt_of_cell? w _ hw403_0)).trans hw403_0), ((HB.out.cell (World.block_lt_of_cell? w _ hw403_1)).trans hw403_1)⟩ (fun hHeld => ?_)
              clear hK K
              refine norm_ (a' := ?_) ?_ ?_
              rotate_left
              · show Act.put _ (some 18) _ = _
                simp only [Act.put, List.setIfInBounds_toArray, List.set_cons_zero, List.set_cons_succ, i64_w, i32_w]
                rfl
              refine pure_ (i := 7) (N := some 19) (v := ?_) (a' := ?_) #[true, true, true, true, true, true, true, true] rfl rfl (any_of HT_.out (by kernel_rfl)) (fun _ _ _ h => h) (Or.inl ⟨by rfl, ?_⟩) ?_ ?_
              rotate_left
              · intro w'
                go_simp
                with_reducible rfl
              rotate_left
              · simp only [Act.put, List.setIfInBounds_toArray, List.set_cons_zero, List.set_cons_succ, i64_w, i32_w]
                rfl
              refine done_ (done_of HT_.out (by kernel_rfl)) ?_
              try go_wp2
              have n0_ := Aside0.mk (below_drew1 HB.out)
              clear HB
              have HB := n0_
              clear n0_
              have p405 : 0 ≤ (x5_1 : Int) := of_decide_eq_true (by first | (with_reducible assumption) | assumption)
              have q405 : x5_1 < (l0.length : Int) := of_decide_eq_true (by first | (with_reducible assumption) | assumption)
              obtain ⟨ad405, e405, hx405_0, hx405_1⟩ := at_T27 HR0.out x5_1 p405 q405
              have hw405_1 := hx405_1
              have hw405_0 := hx405_0
              obtain rfl : ad403 = ad405 := (by injection e405)
              replace hx405_0 := (HB.out.cell (World.block_lt_of_cell? w _ hx405_0)).trans hx405_0
              replace hx405_1 := (HB.out.cell (World.block_lt_of_cell? w _ hx405_1)).trans hx405_1
              replace p405 := eq_true p405
              replace q405 := eq_true q405
              refine start_ (n := 8) (S := fun w' => w'.cell? (ad403.add ((x5_1).toNat * 2)) = some (.string ((rd_T27 l0 x5_1).f0)) ∧ w'.cell? ⟨(ad403.add ((x5_1).toNat * 2)).block, (ad403.add ((x5_1).toNat * 2)).off + 1, none⟩ = some (.string ((rd_T27 l0 x5_1).f1))) (ds := []) #[false, false, false, false, false, false, false, false] (by kernel_rfl) rfl rfl ⟨((HB.out.cell (World.block_lt_of_cell? w _ hw405_0)).trans hw405_0), ((HB.out.cell (World.block_lt_of_cell? w _ hw405_1)).trans hw405_1)⟩ (fun hHeld => ?_); refine with_tabW laws_heldLogRecordS.tab7 laws_heldLogRecordS.bits7 (fun HT_ HW_ => ?_)
              generalize w10.drew = w11 at HB hx405_0 hx405_1 hHeld ⊢
              refine pure_ (i := 0) (N := some 22) (v := ?_) (a' := ?_) #[true, false, false, false, false, false, false, false] rfl rfl (any_of HT_.out (by kernel_rfl)) (fun _ _ _ h => h) (Or.inl ⟨by rfl, ?_⟩) ?_ ?_
              rotate_left
              · intro w'
                go_simp
                with_reducible rfl
              rotate_left
              · simp only [Act.put, List.setIfInBounds_toArray, List.set_cons_zero, List.set_cons_succ, i64_w, i32_w]
                rfl
              refine pure_ (i := 1) (N := some 23) (v := ?_) (a' := ?_) #[true, true, false, false, false, false, false, false] rfl rfl (any_of HT_.out (by kernel_rfl)) (fun _ _ _ h => h) (Or.inl ⟨by rfl, ?_⟩) ?_ ?_
              rotate_left
              · intro w'
                go_simp
                with_reducible rfl
              rotate_left
              · simp only [Act.put, List.setIfInBounds_toArray, List.set_cons_zero, List.set_cons_succ, i64_w, i32_w]
                rfl
              refine pure_ (i := 2) (N := some 24) (v := ?_) (a' := ?_) #[true, true, true, false, false, false, false, false] rfl rfl (any_of HT_.out (by kernel_rfl)) (fun _ _ _ h => h) (Or.inl ⟨by rfl, ?_⟩) ?_ ?_
              rotate_left
              · intro w'
                go_simp
                with_reducible rfl
              rotate_left
              · simp only [Act.put, List.setIfInBounds_toArray, List.set_cons_zero, List.set_cons_succ, i64_w, i32_w]
                rfl
              refine pure_ (i := 3) (N := some 25) (v := ?_) (a' := ?_) #[true, true, true, true, false, false, false, false] rfl rfl (any_of HT_.out (by kernel_rfl)) (fun _ _ _ h => h) (Or.inl ⟨by rfl, ?_⟩) ?_ ?_
              rotate_left
              · intro w'
                go_simp
                with_reducible rfl
              rotate_left
              · simp only [Act.put, List.setIfInBounds_toArray, List.set_cons_zero, List.set_cons_succ, i64_w, i32_w]
                rfl
              refine pure_ (i := 5) (N := some 27) (v := ?_) (a' := ?_) #[true, true, true, true, false, true, false, false] rfl rfl (any_of HT_.out (by kernel_rfl)) (fun _ _ _ h => h) (Or.inl ⟨by rfl, ?_⟩) ?_ ?_
              rotate_left
              · intro w'
                go_simp
                with_reducible rfl
              rotate_left
              · simp only [Act.put, List.setIfInBounds_toArray, List.set_cons_zero, List.set_cons_succ, i64_w, i32_w]
                rfl
              refine take_ (i := 4) (N := some 26) (v := ?_) (a' := ?_) #[true, true, true, true, true, true, false, false] rfl rfl (take_ofW HT_.out HW_.out (by kernel_rfl)) (fun _ _ _ h => h) (Or.inl ⟨by rfl, ?_⟩) hHeld ?_ ?_
              rotate_left
              · rintro w' ⟨s0, s1⟩
                go_simp
                with_reducible rfl
              rotate_left
              · simp only [Act.put, List.setIfInBounds_toArray, List.set_cons_zero, List.set_cons_succ, i64_w, i32_w]
                rfl
              refine one_ (i := 6) (N := some 28) #[true, true, true, true, true, true, true, false] rfl rfl (one_of HT_.out (by kernel_rfl)) (by decide) (fun K hK => ?_)
              refine goes_ Tryd.func44 (by kernel_rfl) rfl #[.int .i64 (wrap64 (x1_1 + 1))] (by rfl) rfl rfl (by (try simp only [List.map_toArray, List.map_cons, List.map_nil]); first | done | rfl | (simp only [List.length_drop, List.length_take]; rfl)) ?_
              with_reducible refine (laws_markText.calls k1 (wrap64 (x1_1 + 1)) t406 _ A7.out).mono ?_
              rintro e w12 ⟨rfl, hb⟩
              refine ⟨_, rfl, ?_⟩
              have n0_ := Aside0.mk (below_step (by repeat (first | (with_reducible first | exact HB.out | apply below_alloc | apply pw_below_drewN | apply below_drew1) | exact HB.out)) hb)
              clear HB
              have HB := n0_
              clear n0_
              (try clear hb)
              (try clear hb2)
              (try clear hk)
              (try clear hi)
              refine hK.out _ _ ⟨((HB.out.cell (World.block_lt_of_cell? w _ hw405_0)).trans hw405_0), ((HB.out.cell (World.block_lt_of_cell? w _ hw405_1)).trans hw405_1)⟩ (fun hHeld => ?_)
              clear hK K
              refine norm_ (a' := ?_) ?_ ?_
              rotate_left
              · show Act.put _ (some 28) _ = _
                simp only [Act.put, List.setIfInBounds_toArray, List.set_cons_zero, List.set_cons_succ, i64_w, i32_w]
                rfl
              refine pure_ (i := 7) (N := some 29) (v := ?_) (a' := ?_) #[true, true, true, true, true, true, true, true] rfl rfl (any_of HT_.out (by kernel_rfl)) (fun _ _ _ h => h) (Or.inl ⟨by rfl, ?_⟩) ?_ ?_
              rotate_left
              · intro w'
                go_simp
                with_reducible rfl
              rotate_left
              · simp only [Act.put, List.setIfInBounds_toArray, List.set_cons_zero, List.set_cons_succ, i64_w, i32_w]
                rfl
              refine done_ (done_of HT_.out (by kernel_rfl)) ?_
              try go_wp2
              go_roundg k1
              case measure => have := HK1.out; omega
              case rel => exact ⟨(wrap64 ((wrap64 (x1_1 + 1)) + 1)), (wrap64 (x5_1 + 1)), (by first | rfl | (simp; done) | (simp [*]; done)), (by first | rfl | (simp; done) | (simp [*]; done)), H', ⟨by have := HK1.out; omega⟩, ⟨by repeat (first | (with_reducible first | exact HB.out | apply below_alloc | apply pw_below_drewN | apply below_drew1) | exact HB.out)⟩⟩
            · rw [if_neg c8] at H
              have c8b0 : (((rd_T27 l0 x5_1).f1).toList == t406.toList) = false := beq_eq_false_iff_ne.mpr c8
              have c8b1 : (((rd_T27 l0 x5_1).f1).toList != t406.toList) = true := bne_iff_ne.mpr c8
              obtain rfl := Option.some.inj H
              try go_wp2
              have n0_ := Aside0.mk (below_drew1 HB.out)
              clear HB
              have HB := n0_
              clear n0_
              have p403 : 0 ≤ (x5_1 : Int) := of_decide_eq_true (by first | (with_reducible assumption) | assumption)
              have q403 : x5_1 < (l0.length : Int) := of_decide_eq_true (by first | (with_reducible assumption) | assumption)
              obtain ⟨ad403, e403, hx403_0, hx403_1⟩ := at_T27 HR0.out x5_1 p403 q403
              have hw403_1 := hx403_1
              have hw403_0 := hx403_0
              cases e403
              replace hx403_0 := (HB.out.cell (World.block_lt_of_cell? w _ hx403_0)).trans hx403_0
              replace hx403_1 := (HB.out.cell (World.block_lt_of_cell? w _ hx403_1)).trans hx403_1
              replace p403 := eq_true p403
              replace q403 := eq_true q403
              refine start_ (n := 8) (S := fun w' => w'.cell? (ad403.add ((x5_1).toNat * 2)) = some (.string ((rd_T27 l0 x5_1).f0)) ∧ w'.cell? ⟨(ad403.add ((x5_1).toNat * 2)).block, (ad403.add ((x5_1).toNat * 2)).off + 1, none⟩ = some (.string ((rd_T27 l0 x5_1).f1))) (ds := []) #[false, false, false, false, false, false, false, false] (by kernel_rfl) rfl rfl ⟨((HB.out.cell (World.block_lt_of_cell? w _ hw403_0)).trans hw403_0), ((HB.out.cell (World.block_lt_of_cell? w _ hw403_1)).trans hw403_1)⟩ (fun hHeld => ?_); refine with_tabW laws_heldLogRecordS.tab4 laws_heldLogRecordS.bits4 (fun HT_ HW_ => ?_)
              generalize wr.drew = w13 at HB hx403_0 hx403_1 hHeld ⊢
              refine pure_ (i := 0) (N := some 12) (v := ?_) (a' := ?_) #[true, false, false, false, false, false, false, false] rfl rfl (any_of HT_.out (by kernel_rfl)) (fun _ _ _ h => h) (Or.inl ⟨by rfl, ?_⟩) ?_ ?_
              rotate_left
              · intro w'
                go_simp
                with_reducible rfl
              rotate_left
              · simp only [Act.put, List.setIfInBounds_toArray, List.set_cons_zero, List.set_cons_succ, i64_w, i32_w]
                rfl
              refine pure_ (i := 1) (N := some 13) (v := ?_) (a' := ?_) #[true, true, false, false, false, false, false, false] rfl rfl (any_of HT_.out (by kernel_rfl)) (fun _ _ _ h => h) (Or.inl ⟨by rfl, ?_⟩) ?_ ?_
              rotate_left
              · intro w'
                go_simp
                with_reducible rfl
              rotate_left
              · simp only [Act.put, List.setIfInBounds_toArray, List.set_cons_zero, List.set_cons_succ, i64_w, i32_w]
                rfl
              refine pure_ (i := 2) (N := some 14) (v := ?_) (a' := ?_) #[true, true, true, false, false, false, false, false] rfl rfl (any_of HT_.out (by kernel_rfl)) (fun _ _ _ h => h) (Or.inl ⟨by rfl, ?_⟩) ?_ ?_
              rotate_left
              · intro w'
                go_simp
                with_reducible rfl
              rotate_left
              · simp only [Act.put, List.setIfInBounds_toArray, List.set_cons_zero, List.set_cons_succ, i64_w, i32_w]
                rfl
              refine pure_ (i := 3) (N := some 15) (v := ?_) (a' := ?_) #[true, true, true, true, false, false, false, false] rfl rfl (any_of HT_.out (by kernel_rfl)) (fun _ _ _ h => h) (Or.inl ⟨by rfl, ?_⟩) ?_ ?_
              rotate_left
              · intro w'
                go_simp
                with_reducible rfl
              rotate_left
              · simp only [Act.put, List.setIfInBounds_toArray, List.set_cons_zero, List.set_cons_succ, i64_w, i32_w]
                rfl
              refine pure_ (i := 5) (N := some 17) (v := ?_) (a' := ?_) #[true, true, true, true, false, true, false, false] rfl rfl (any_of HT_.out (by kernel_rfl)) (fun _ _ _ h => h) (Or.inl ⟨by rfl, ?_⟩) ?_ ?_
              rotate_left
              · intro w'
                go_simp
                with_reducible rfl
              rotate_left
              · simp only [Act.put, List.setIfInBounds_toArray, List.set_cons_zero, List.set_cons_succ, i64_w, i32_w]
                rfl
              refine take_ (i := 4) (N := some 16) (v := ?_) (a' := ?_) #[true, true, true, true, true, true, false, false] rfl rfl (take_ofW HT_.out HW_.out (by kernel_rfl)) (fun _ _ _ h => h) (Or.inl ⟨by rfl, ?_⟩) hHeld ?_ ?_
              rotate_left
              · rintro w' ⟨s0, s1⟩
                go_simp
                with_reducible rfl
              rotate_left
              · simp only [Act.put, List.setIfInBounds_toArray, List.set_cons_zero, List.set_cons_succ, i64_w, i32_w]
                rfl
              refine one_ (i := 6) (N := some 18) #[true, true, true, true, true, true, true, false] rfl rfl (one_of HT_.out (by kernel_rfl)) (by decide) (fun K hK => ?_)
              refine goes_ Tryd.func44 (by kernel_rfl) rfl #[.int .i64 x1_1] (by rfl) rfl rfl (by (try simp only [List.map_toArray, List.map_cons, List.map_nil]); first | done | rfl | (simp only [List.length_drop, List.length_take]; rfl)) ?_
              with_reducible refine (laws_markText.calls k1 x1_1 t404 _ A5.out).mono ?_
              rintro e w14 ⟨rfl, hb⟩
              refine ⟨_, rfl, ?_⟩
              have n0_ := Aside0.mk (below_step (by repeat (first | (with_reducible first | exact HB.out | apply below_alloc | apply pw_below_drewN | apply below_drew1) | exact HB.out)) hb)
              clear HB
              have HB := n0_
              clear n0_
              (try clear hb)
              (try clear hb2)
              (try clear hk)
              (try clear hi)
              refine hK.out _ _ ⟨((HB.out.cell (World.block_lt_of_cell? w _ hw403_0)).trans hw403_0), ((HB.out.cell (World.block_lt_of_cell? w _ hw403_1)).trans hw403_1)⟩ (fun hHeld => ?_)
              clear hK K
              refine norm_ (a' := ?_) ?_ ?_
              rotate_left
              · show Act.put _ (some 18) _ = _
                simp only [Act.put, List.setIfInBounds_toArray, List.set_cons_zero, List.set_cons_succ, i64_w, i32_w]
                rfl
              refine pure_ (i := 7) (N := some 19) (v := ?_) (a' := ?_) #[true, true, true, true, true, true, true, true] rfl rfl (any_of HT_.out (by kernel_rfl)) (fun _ _ _ h => h) (Or.inl ⟨by rfl, ?_⟩) ?_ ?_
              rotate_left
              · intro w'
                go_simp
                with_reducible rfl
              rotate_left
              · simp only [Act.put, List.setIfInBounds_toArray, List.set_cons_zero, List.set_cons_succ, i64_w, i32_w]
                rfl
              refine done_ (done_of HT_.out (by kernel_rfl)) ?_
              try go_wp2
              have n0_ := Aside0.mk (below_drew1 HB.out)
              clear HB
              have HB := n0_
              clear n0_
              have p405 : 0 ≤ (x5_1 : Int) := of_decide_eq_true (by first | (with_reducible assumption) | assumption)
              have q405 : x5_1 < (l0.length : Int) := of_decide_eq_true (by first | (with_reducible assumption) | assumption)
              obtain ⟨ad405, e405, hx405_0, hx405_1⟩ := at_T27 HR0.out x5_1 p405 q405
              have hw405_1 := hx405_1
              have hw405_0 := hx405_0
              obtain rfl : ad403 = ad405 := (by injection e405)
              replace hx405_0 := (HB.out.cell (World.block_lt_of_cell? w _ hx405_0)).trans hx405_0
              replace hx405_1 := (HB.out.cell (World.block_lt_of_cell? w _ hx405_1)).trans hx405_1
              replace p405 := eq_true p405
              replace q405 := eq_true q405
              refine start_ (n := 8) (S := fun w' => w'.cell? (ad403.add ((x5_1).toNat * 2)) = some (.string ((rd_T27 l0 x5_1).f0)) ∧ w'.cell? ⟨(ad403.add ((x5_1).toNat * 2)).block, (ad403.add ((x5_1).toNat * 2)).off + 1, none⟩ = some (.string ((rd_T27 l0 x5_1).f1))) (ds := []) #[false, false, false, false, false, false, false, false] (by kernel_rfl) rfl rfl ⟨((HB.out.cell (World.block_lt_of_cell? w _ hw405_0)).trans hw405_0), ((HB.out.cell (World.block_lt_of_cell? w _ hw405_1)).trans hw405_1)⟩ (fun hHeld => ?_); refine with_tabW laws_heldLogRecordS.tab7 laws_heldLogRecordS.bits7 (fun HT_ HW_ => ?_)
              generalize w14.drew = w15 at HB hx405_0 hx405_1 hHeld ⊢
              refine pure_ (i := 0) (N := some 22) (v := ?_) (a' := ?_) #[true, false, false, false, false, false, false, false] rfl rfl (any_of HT_.out (by kernel_rfl)) (fun _ _ _ h => h) (Or.inl ⟨by rfl, ?_⟩) ?_ ?_
              rotate_left
              · intro w'
                go_simp
                with_reducible rfl
              rotate_left
              · simp only [Act.put, List.setIfInBounds_toArray, List.set_cons_zero, List.set_cons_succ, i64_w, i32_w]
                rfl
              refine pure_ (i := 1) (N := some 23) (v := ?_) (a' := ?_) #[true, true, false, false, false, false, false, false] rfl rfl (any_of HT_.out (by kernel_rfl)) (fun _ _ _ h => h) (Or.inl ⟨by rfl, ?_⟩) ?_ ?_
              rotate_left
              · intro w'
                go_simp
                with_reducible rfl
              rotate_left
              · simp only [Act.put, List.setIfInBounds_toArray, List.set_cons_zero, List.set_cons_succ, i64_w, i32_w]
                rfl
              refine pure_ (i := 2) (N := some 24) (v := ?_) (a' := ?_) #[true, true, true, false, false, false, false, false] rfl rfl (any_of HT_.out (by kernel_rfl)) (fun _ _ _ h => h) (Or.inl ⟨by rfl, ?_⟩) ?_ ?_
              rotate_left
              · intro w'
                go_simp
                with_reducible rfl
              rotate_left
              · simp only [Act.put, List.setIfInBounds_toArray, List.set_cons_zero, List.set_cons_succ, i64_w, i32_w]
                rfl
              refine pure_ (i := 3) (N := some 25) (v := ?_) (a' := ?_) #[true, true, true, true, false, false, false, false] rfl rfl (any_of HT_.out (by kernel_rfl)) (fun _ _ _ h => h) (Or.inl ⟨by rfl, ?_⟩) ?_ ?_
              rotate_left
              · intro w'
                go_simp
                with_reducible rfl
              rotate_left
              · simp only [Act.put, List.setIfInBounds_toArray, List.set_cons_zero, List.set_cons_succ, i64_w, i32_w]
                rfl
              refine pure_ (i := 5) (N := some 27) (v := ?_) (a' := ?_) #[true, true, true, true, false, true, false, false] rfl rfl (any_of HT_.out (by kernel_rfl)) (fun _ _ _ h => h) (Or.inl ⟨by rfl, ?_⟩) ?_ ?_
              rotate_left
              · intro w'
                go_simp
                with_reducible rfl
              rotate_left
              · simp only [Act.put, List.setIfInBounds_toArray, List.set_cons_zero, List.set_cons_succ, i64_w, i32_w]
                rfl
              refine take_ (i := 4) (N := some 26) (v := ?_) (a' := ?_) #[true, true, true, true, true, true, false, false] rfl rfl (take_ofW HT_.out HW_.out (by kernel_rfl)) (fun _ _ _ h => h) (Or.inl ⟨by rfl, ?_⟩) hHeld ?_ ?_
              rotate_left
              · rintro w' ⟨s0, s1⟩
                go_simp
                with_reducible rfl
              rotate_left
              · simp only [Act.put, List.setIfInBounds_toArray, List.set_cons_zero, List.set_cons_succ, i64_w, i32_w]
                rfl
              refine one_ (i := 6) (N := some 28) #[true, true, true, true, true, true, true, false] rfl rfl (one_of HT_.out (by kernel_rfl)) (by decide) (fun K hK => ?_)
              refine goes_ Tryd.func44 (by kernel_rfl) rfl #[.int .i64 (wrap64 (x1_1 + 1))] (by rfl) rfl rfl (by (try simp only [List.map_toArray, List.map_cons, List.map_nil]); first | done | rfl | (simp only [List.length_drop, List.length_take]; rfl)) ?_
              with_reducible refine (laws_markText.calls k1 (wrap64 (x1_1 + 1)) t406 _ A7.out).mono ?_
              rintro e w16 ⟨rfl, hb⟩
              refine ⟨_, rfl, ?_⟩
              have n0_ := Aside0.mk (below_step (by repeat (first | (with_reducible first | exact HB.out | apply below_alloc | apply pw_below_drewN | apply below_drew1) | exact HB.out)) hb)
              clear HB
              have HB := n0_
              clear n0_
              (try clear hb)
              (try clear hb2)
              (try clear hk)
              (try clear hi)
              refine hK.out _ _ ⟨((HB.out.cell (World.block_lt_of_cell? w _ hw405_0)).trans hw405_0), ((HB.out.cell (World.block_lt_of_cell? w _ hw405_1)).trans hw405_1)⟩ (fun hHeld => ?_)
              clear hK K
              refine norm_ (a' := ?_) ?_ ?_
              rotate_left
              · show Act.put _ (some 28) _ = _
                simp only [Act.put, List.setIfInBounds_toArray, List.set_cons_zero, List.set_cons_succ, i64_w, i32_w]
                rfl
              refine pure_ (i := 7) (N := some 29) (v := ?_) (a' := ?_) #[true, true, true, true, true, true, true, true] rfl rfl (any_of HT_.out (by kernel_rfl)) (fun _ _ _ h => h) (Or.inl ⟨by rfl, ?_⟩) ?_ ?_
              rotate_left
              · intro w'
                go_simp
                with_reducible rfl
              rotate_left
              · simp only [Act.put, List.setIfInBounds_toArray, List.set_cons_zero, List.set_cons_succ, i64_w, i32_w]
                rfl
              refine done_ (done_of HT_.out (by kernel_rfl)) ?_
              try go_wp2
              go_ret
              exact ⟨by first | rfl | (simp [errW_none, errW_some] <;> rfl) | (simp [*, errW_none, errW_some] <;> rfl), by repeat (first | (with_reducible first | exact HB.out | apply below_alloc | apply pw_below_drewN | apply below_drew1) | exact HB.out)⟩
          · rw [if_neg c6] at H
            have c6b0 : (((rd_T27 l0 x5_1).f0).toList == t404.toList) = false := beq_eq_false_iff_ne.mpr c6
            have c6b1 : (((rd_T27 l0 x5_1).f0).toList != t404.toList) = true := bne_iff_ne.mpr c6
            obtain rfl := Option.some.inj H
            try go_wp2
            have n0_ := Aside0.mk (below_drew1 HB.out)
            clear HB
            have HB := n0_
            clear n0_
            have p403 : 0 ≤ (x5_1 : Int) := of_decide_eq_true (by first | (with_reducible assumption) | assumption)
            have q403 : x5_1 < (l0.length : Int) := of_decide_eq_true (by first | (with_reducible assumption) | assumption)
            obtain ⟨ad403, e403, hx403_0, hx403_1⟩ := at_T27 HR0.out x5_1 p403 q403
            have hw403_1 := hx403_1
            have hw403_0 := hx403_0
            cases e403
            replace hx403_0 := (HB.out.cell (World.block_lt_of_cell? w _ hx403_0)).trans hx403_0
            replace hx403_1 := (HB.out.cell (World.block_lt_of_cell? w _ hx403_1)).trans hx403_1
            replace p403 := eq_true p403
            replace q403 := eq_true q403
            refine start_ (n := 8) (S := fun w' => w'.cell? (ad403.add ((x5_1).toNat * 2)) = some (.string ((rd_T27 l0 x5_1).f0)) ∧ w'.cell? ⟨(ad403.add ((x5_1).toNat * 2)).block, (ad403.add ((x5_1).toNat * 2)).off + 1, none⟩ = some (.string ((rd_T27 l0 x5_1).f1))) (ds := []) #[false, false, false, false, false, false, false, false] (by kernel_rfl) rfl rfl ⟨((HB.out.cell (World.block_lt_of_cell? w _ hw403_0)).trans hw403_0), ((HB.out.cell (World.block_lt_of_cell? w _ hw403_1)).trans hw403_1)⟩ (fun hHeld => ?_); refine with_tabW laws_heldLogRecordS.tab4 laws_heldLogRecordS.bits4 (fun HT_ HW_ => ?_)
            generalize wr.drew = w17 at HB hx403_0 hx403_1 hHeld ⊢
            refine pure_ (i := 0) (N := some 12) (v := ?_) (a' := ?_) #[true, false, false, false, false, false, false, false] rfl rfl (any_of HT_.out (by kernel_rfl)) (fun _ _ _ h => h) (Or.inl ⟨by rfl, ?_⟩) ?_ ?_
            rotate_left
            · intro w'
              go_simp
              with_reducible rfl
            rotate_left
            · simp only [Act.put, List.setIfInBounds_toArray, List.set_cons_zero, List.set_cons_succ, i64_w, i32_w]
              rfl
            refine pure_ (i := 1) (N := some 13) (v := ?_) (a' := ?_) #[true, true, false, false, false, false, false, false] rfl rfl (any_of HT_.out (by kernel_rfl)) (fun _ _ _ h => h) (Or.inl ⟨by rfl, ?_⟩) ?_ ?_
            rotate_left
            · intro w'
              go_simp
              with_reducible rfl
            rotate_left
            · simp only [Act.put, List.setIfInBounds_toArray, List.set_cons_zero, List.set_cons_succ, i64_w, i32_w]
              rfl
            refine pure_ (i := 2) (N := some 14) (v := ?_) (a' := ?_) #[true, true, true, false, false, false, false, false] rfl rfl (any_of HT_.out (by kernel_rfl)) (fun _ _ _ h => h) (Or.inl ⟨by rfl, ?_⟩) ?_ ?_
            rotate_left
            · intro w'
              go_simp
              with_reducible rfl
            rotate_left
            · simp only [Act.put, List.setIfInBounds_toArray, List.set_cons_zero, List.set_cons_succ, i64_w, i32_w]
              rfl
            refine pure_ (i := 3) (N := some 15) (v := ?_) (a' := ?_) #[true, true, true, true, false, false, false, false] rfl rfl (any_of HT_.out (by kernel_rfl)) (fun _ _ _ h => h) (Or.inl ⟨by rfl, ?_⟩) ?_ ?_
            rotate_left
            · intro w'
              go_simp
              with_reducible rfl
            rotate_left
            · simp only [Act.put, List.setIfInBounds_toArray, List.set_cons_zero, List.set_cons_succ, i64_w, i32_w]
              rfl
            refine pure_ (i := 5) (N := some 17) (v := ?_) (a' := ?_) #[true, true, true, true, false, true, false, false] rfl rfl (any_of HT_.out (by kernel_rfl)) (fun _ _ _ h => h) (Or.inl ⟨by rfl, ?_⟩) ?_ ?_
            rotate_left
            · intro w'
              go_simp
              with_reducible rfl
            rotate_left
            · simp only [Act.put, List.setIfInBounds_toArray, List.set_cons_zero, List.set_cons_succ, i64_w, i32_w]
              rfl
            refine take_ (i := 4) (N := some 16) (v := ?_) (a' := ?_) #[true, true, true, true, true, true, false, false] rfl rfl (take_ofW HT_.out HW_.out (by kernel_rfl)) (fun _ _ _ h => h) (Or.inl ⟨by rfl, ?_⟩) hHeld ?_ ?_
            rotate_left
            · rintro w' ⟨s0, s1⟩
              go_simp
              with_reducible rfl
            rotate_left
            · simp only [Act.put, List.setIfInBounds_toArray, List.set_cons_zero, List.set_cons_succ, i64_w, i32_w]
              rfl
            refine one_ (i := 6) (N := some 18) #[true, true, true, true, true, true, true, false] rfl rfl (one_of HT_.out (by kernel_rfl)) (by decide) (fun K hK => ?_)
            refine goes_ Tryd.func44 (by kernel_rfl) rfl #[.int .i64 x1_1] (by rfl) rfl rfl (by (try simp only [List.map_toArray, List.map_cons, List.map_nil]); first | done | rfl | (simp only [List.length_drop, List.length_take]; rfl)) ?_
            with_reducible refine (laws_markText.calls k1 x1_1 t404 _ A5.out).mono ?_
            rintro e w18 ⟨rfl, hb⟩
            refine ⟨_, rfl, ?_⟩
            have n0_ := Aside0.mk (below_step (by repeat (first | (with_reducible first | exact HB.out | apply below_alloc | apply pw_below_drewN | apply below_drew1) | exact HB.out)) hb)
            clear HB
            have HB := n0_
            clear n0_
            (try clear hb)
            (try clear hb2)
            (try clear hk)
            (try clear hi)
            refine hK.out _ _ ⟨((HB.out.cell (World.block_lt_of_cell? w _ hw403_0)).trans hw403_0), ((HB.out.cell (World.block_lt_of_cell? w _ hw403_1)).trans hw403_1)⟩ (fun hHeld => ?_)
            clear hK K
            refine norm_ (a' := ?_) ?_ ?_
            rotate_left
            · show Act.put _ (some 18) _ = _
              simp only [Act.put, List.setIfInBounds_toArray, List.set_cons_zero, List.set_cons_succ, i64_w, i32_w]
              rfl
            refine pure_ (i := 7) (N := some 19) (v := ?_) (a' := ?_) #[true, true, true, true, true, true, true, true] rfl rfl (any_of HT_.out (by kernel_rfl)) (fun _ _ _ h => h) (Or.inl ⟨by rfl, ?_⟩) ?_ ?_
            rotate_left
            · intro w'
              go_simp
              with_reducible rfl
            rotate_left
            · simp only [Act.put, List.setIfInBounds_toArray, List.set_cons_zero, List.set_cons_succ, i64_w, i32_w]
              rfl
            refine done_ (done_of HT_.out (by kernel_rfl)) ?_
            try go_wp2
            go_ret
            exact ⟨by first | rfl | (simp [errW_none, errW_some] <;> rfl) | (simp [*, errW_none, errW_some] <;> rfl), by repeat (first | (with_reducible first | exact HB.out | apply below_alloc | apply pw_below_drewN | apply below_drew1) | exact HB.out)⟩
        · rw [if_neg c4] at H
          exact absurd H (by simp)
      · rw [if_neg c3] at H
        have c3b0 : decide (x5_1 < (l0.length : Int)) = false := decide_eq_false c3
        clear c3
        obtain rfl := Option.some.inj H
        go_wp2
        go_ret
        exact ⟨by first | rfl | (simp [errW_none, errW_some] <;> rfl) | (simp [*, errW_none, errW_some] <;> rfl), by repeat (first | (with_reducible first | exact HB.out | apply below_alloc | apply pw_below_drewN | apply below_drew1) | exact HB.out)⟩
end Go.Proofs.YtnjambhlblngcaaDoor.P
namespace Go.Proofs.YtnjambhlblngcaaDoor.P
open Go.RowKit Go.Proofs.YtnjambhlblngcaaDoorW.PrintWords Go.Proofs.YtnjambhlblngcaaDoorW.PrintLast Go.Proofs.YtnjambhlblngcaaDoorW.PrintMore
attribute [local go_sem] max2_int min2_int max_two min_two max_three min_three max_four min_four   -- for this text's walks alone
set_option linter.unusedVariables false
set_option linter.unusedSimpArgs false

mutual
def laws_FnExactLogRecords.j0 : Nat → List (S27) → Bool → List (S27) → Bool → ByteArray → ByteArray → Int → Option (Bool)
  | 0, _, _, _, _, _, _, _ => none
  | k + 1, x4, x5, x6, x37, x408000, x408001, x408002 => if x37 = true then (some false) else ((laws_markLogRecordS.f k x6 1).bind fun bt424 => ((laws_heldLogRecordS.f k bt424.2 1).bind fun t426 => (if t426 < 0 then (some false) else (if t426 = bt424.1 then ((laws_toLog.f x408000 x408001 x408002).bind fun bt427 => ((impl_LogRecords.f k bt427.1 bt427.2.1 bt427.2.2).bind fun bt430 => ((laws_eqLogRecordS.f k bt430.1 x4).bind fun t434 => (if t434 = true then (laws_FnExactLogRecords.j1 k bt424.2 bt424.1 (bt430.2 != x5)) else (laws_FnExactLogRecords.j1 k bt424.2 bt424.1 true))))) else (some false)))))
def laws_FnExactLogRecords.j1 : Nat → List (S27) → Int → Bool → Option (Bool)
  | 0, _, _, _ => none
  | k + 1, x6, x8, x63 => if x63 = true then (some false) else ((laws_heldLogRecordS.f k x6 1).bind fun t435 => (if t435 < 0 then (some false) else (if t435 = x8 then (some true) else (some false))))
end

def laws_FnExactLogRecords.f (k : Nat) (a0_0 : ByteArray) (a0_1 : ByteArray) (a0_2 : Int) : Option (Bool) := (laws_szLog.f a0_0 a0_1 a0_2 1048576).bind fun t408 => (if t408 < 0 then (some true) else ((laws_toLog.f a0_0 a0_1 a0_2).bind fun bt409 => ((spec_LogRecords.f k bt409.1 bt409.2.1 bt409.2.2).bind fun bt412 => ((laws_toLog.f a0_0 a0_1 a0_2).bind fun bt416 => ((impl_LogRecords.f k bt416.1 bt416.2.1 bt416.2.2).bind fun bt419 => ((laws_eqLogRecordS.f k bt419.1 bt412.1).bind fun t423 => (if t423 = true then (laws_FnExactLogRecords.j0 k bt412.1 bt412.2 bt419.1 (bt419.2 != bt412.2) a0_0 a0_1 a0_2) else (laws_FnExactLogRecords.j0 k bt412.1 bt412.2 bt419.1 true a0_0 a0_1 a0_2))))))))

set_option maxHeartbeats 8000000 in
set_option maxRecDepth 100000 in
theorem laws_FnExactLogRecords.calls (k : Nat) (a0_0 : ByteArray) (a0_1 : ByteArray) (a0_2 : Int) (r : Bool) (w : World) (ht : TabOK w) (h : laws_FnExactLogRecords.f k a0_0 a0_1 a0_2 = some r) :
    Calls Tryd.prog 9 #[.agg #[.string a0_0, .string a0_1, .int .i64 a0_2]] w fun e w' => e = .returned (.bool r) ∧ Below w.heap.size w w' := by
  have hu36 := Tryd.underlying36
  have HT := Aside0.mk ht
  clear ht
  have HB := Aside0.mk (Below.refl w.heap.size w)
  have H : ((laws_szLog.f a0_0 a0_1 a0_2 1048576).bind fun t408 => (if t408 < 0 then (some true) else ((laws_toLog.f a0_0 a0_1 a0_2).bind fun bt409 => ((spec_LogRecords.f k bt409.1 bt409.2.1 bt409.2.2).bind fun bt412 => ((laws_toLog.f a0_0 a0_1 a0_2).bind fun bt416 => ((impl_LogRecords.f k bt416.1 bt416.2.1 bt416.2.2).bind fun bt419 => ((laws_eqLogRecordS.f k bt419.1 bt412.1).bind fun t423 => (if t423 = true then (laws_FnExactLogRecords.j0 k bt412.1 bt412.2 bt419.1 (bt419.2 != bt412.2) a0_0 a0_1 a0_2) else (laws_FnExactLogRecords.j0 k bt412.1 bt412.2 bt419.1 true a0_0 a0_1 a0_2))))))))) = some r := h
  clear h
  replace H := Option.bind_eq_some_iff.mp H
  obtain ⟨t408, A20, H⟩ := H
  replace H : (if t408 < 0 then (some true) else ((laws_toLog.f a0_0 a0_1 a0_2).bind fun bt409 => ((spec_LogRecords.f k bt409.1 bt409.2.1 bt409.2.2).bind fun bt412 => ((laws_toLog.f a0_0 a0_1 a0_2).bind fun bt416 => ((impl_LogRecords.f k bt416.1 bt416.2.1 bt416.2.2).bind fun bt419 => ((laws_eqLogRecordS.f k bt419.1 bt412.1).bind fun t423 => (if t423 = true then (laws_FnExactLogRecords.j0 k bt412.1 bt412.2 bt419.1 (bt419.2 != bt412.2) a0_0 a0_1 a0_2) else (laws_FnExactLogRecords.j0 k bt412.1 bt412.2 bt419.1 true a0_0 a0_1 a0_2)))))))) = some r := H
  have A2 := Aside0.mk A20
  clear A20
  by_cases c3 : t408 < 0
  · rw [if_pos c3] at H
    have c3b0 : decide (t408 < 0) = true := decide_eq_true c3
    clear c3
    obtain rfl := Option.some.inj H
    go_enter Tryd.func9, Tryd.ntmps9
    go_wp2_with (first | ((with_reducible refine gate_dst (N := 1) rfl ?_); refine box_event ?hg (N := 1) ?hd (cs := #[.string a0_0, .string a0_1, .int .i64 a0_2]) (t := 36) ?hr ?_; (case hd => rfl); (case hg => rfl); (case hr => first | (go_simp; done) | (go_simp; rfl)); intro gb407 hg w4 hbox hb; have n0_ := Aside0.mk (below_step (by repeat (first | (with_reducible first | exact HB.out | apply below_alloc | apply pw_below_drewN | apply below_drew1) | exact HB.out)) hb); have n1_ := Aside0.mk (hbox); have n2_ := Aside0.mk ((by rw [hg]; exact (below_size (by repeat (first | (with_reducible first | exact HB.out | apply below_alloc | apply pw_below_drewN | apply below_drew1) | exact HB.out))) : w.heap.size ≤ gb407)); have n3_ := Aside0.mk ((by rw [hg]; exact (below_size (by repeat (first | (with_reducible first | exact HB.out | apply below_alloc | apply pw_below_drewN | apply below_drew1) | exact HB.out))) : w.heap.size ≤ gb407)); clear HB; have HB := n0_; have BK407 := n1_; have GW407 := n2_; have GE407 := n3_; clear n0_ n1_ n2_ n3_; clear hb hbox hg; have hcz5_0 : w4.cell? ⟨gb407, 0, none⟩ = some (.string a0_0) := (blk_cell BK407.out 0).trans rfl; have hcz5_1 : w4.cell? ⟨gb407, 1, none⟩ = some (.string a0_1) := (blk_cell BK407.out 1).trans rfl; have hcz5_2 : w4.cell? ⟨gb407, 2, none⟩ = some (.int .i64 a0_2) := (blk_cell BK407.out 2).trans rfl; have hfz5_0 := blk_frozen BK407.out 0; have hfz5_1 := blk_frozen BK407.out 1; have hfz5_2 := blk_frozen BK407.out 2) | ((with_reducible refine gate_callee (f := 17) rfl ?_); refine goesL_ (some 14) rfl rfl Tryd.func17 (by kernel_rfl) rfl #[.agg #[.string a0_0, .string a0_1, .int .i64 a0_2], .int .i64 1048576] rfl (by (try simp only [List.map_toArray, List.map_cons, List.map_nil]); first | done | rfl | (simp only [List.length_drop, List.length_take]; rfl)) ?_; (with_reducible refine (laws_szLog.calls a0_0 a0_1 a0_2 1048576 t408 _ A2.out).mono ?_); rintro e w6 ⟨rfl, hb⟩; refine ⟨_, rfl, ?_⟩; have n0_ := Aside0.mk (blk_below (g := gb407) (o := .cells #[.string a0_0, .string a0_1, .int .i64 a0_2] 36 (0, 0)) (by (with_reducible repeat (first | refine blk_drewN ?_ _ | refine blk_drew ?_ | refine blk_alloc ?_ _)); exact BK407.out) hb); have n1_ := Aside0.mk (below_step (by repeat (first | (with_reducible first | exact HB.out | apply below_alloc | apply pw_below_drewN | apply below_drew1 | refine below_set ?_ GE407.out) | exact HB.out)) hb); clear BK407; clear HB; have BK407 := n0_; have HB := n1_; clear n0_ n1_; (try clear hb); (try clear hb2); (try clear hk); (try clear hi)))
    go_ret
    exact ⟨by first | rfl | (simp [errW_none, errW_some] <;> rfl) | (simp [*, errW_none, errW_some] <;> rfl), by repeat (first | (with_reducible first | exact HB.out | apply below_alloc | apply pw_below_drewN | apply below_drew1 | refine below_set ?_ GE407.out) | exact HB.out)⟩
  · rw [if_neg c3] at H
    have c3b0 : decide (t408 < 0) = false := decide_eq_false c3
    clear c3
    replace H := Option.bind_eq_some_iff.mp H
    obtain ⟨⟨t409, t410, t411⟩, A70, H⟩ := H
    replace H : ((spec_LogRecords.f k t409 t410 t411).bind fun bt412 => ((laws_toLog.f a0_0 a0_1 a0_2).bind fun bt416 => ((impl_LogRecords.f k bt416.1 bt416.2.1 bt416.2.2).bind fun bt419 => ((laws_eqLogRecordS.f k bt419.1 bt412.1).bind fun t423 => (if t423 = true then (laws_FnExactLogRecords.j0 k bt412.1 bt412.2 bt419.1 (bt419.2 != bt412.2) a0_0 a0_1 a0_2) else (laws_FnExactLogRecords.j0 k bt412.1 bt412.2 bt419.1 true a0_0 a0_1 a0_2)))))) = some r := H
    have A7 := Aside0.mk A70
    clear A70
    replace H := Option.bind_eq_some_iff.mp H
    obtain ⟨⟨t412, t415⟩, A80, H⟩ := H
    replace H : ((laws_toLog.f a0_0 a0_1 a0_2).bind fun bt416 => ((impl_LogRecords.f k bt416.1 bt416.2.1 bt416.2.2).bind fun bt419 => ((laws_eqLogRecordS.f k bt419.1 t412).bind fun t423 => (if t423 = true then (laws_FnExactLogRecords.j0 k t412 t415 bt419.1 (bt419.2 != t415) a0_0 a0_1 a0_2) else (laws_FnExactLogRecords.j0 k t412 t415 bt419.1 true a0_0 a0_1 a0_2))))) = some r := H
    have A8 := Aside0.mk A80
    clear A80
    replace H := Option.bind_eq_some_iff.mp H
    obtain ⟨⟨t416, t417, t418⟩, A90, H⟩ := H
    replace H : ((impl_LogRecords.f k t416 t417 t418).bind fun bt419 => ((laws_eqLogRecordS.f k bt419.1 t412).bind fun t423 => (if t423 = true then (laws_FnExactLogRecords.j0 k t412 t415 bt419.1 (bt419.2 != t415) a0_0 a0_1 a0_2) else (laws_FnExactLogRecords.j0 k t412 t415 bt419.1 true a0_0 a0_1 a0_2)))) = some r := H
    have A9 := Aside0.mk A90
    clear A90
    replace H := Option.bind_eq_some_iff.mp H
    obtain ⟨⟨t419, t422⟩, A100, H⟩ := H
    replace H : ((laws_eqLogRecordS.f k t419 t412).bind fun t423 => (if t423 = true then (laws_FnExactLogRecords.j0 k t412 t415 t419 (t422 != t415) a0_0 a0_1 a0_2) else (laws_FnExactLogRecords.j0 k t412 t415 t419 true a0_0 a0_1 a0_2))) = some r := H
    have A10 := Aside0.mk A100
    clear A100
    have HC11 := Aside0.mk H
    clear H
    go_enter Tryd.func9, Tryd.ntmps9
    go_upto_region 7 with (first | ((with_reducible refine gate_dst (N := 1) rfl ?_); refine box_event ?hg (N := 1) ?hd (cs := #[.string a0_0, .string a0_1, .int .i64 a0_2]) (t := 36) ?hr ?_; (case hd => rfl); (case hg => rfl); (case hr => first | (go_simp; done) | (go_simp; rfl)); intro gb407 hg w12 hbox hb; have n0_ := Aside0.mk (below_step (by repeat (first | (with_reducible first | exact HB.out | apply below_alloc | apply pw_below_drewN | apply below_drew1) | exact HB.out)) hb); have n1_ := Aside0.mk (hbox); have n2_ := Aside0.mk ((by rw [hg]; exact (below_size (by repeat (first | (with_reducible first | exact HB.out | apply below_alloc | apply pw_below_drewN | apply below_drew1) | exact HB.out))) : w.heap.size ≤ gb407)); have n3_ := Aside0.mk ((by rw [hg]; exact (below_size (by repeat (first | (with_reducible first | exact HB.out | apply below_alloc | apply pw_below_drewN | apply below_drew1) | exact HB.out))) : w.heap.size ≤ gb407)); clear HB; have HB := n0_; have BK407 := n1_; have GW407 := n2_; have GE407 := n3_; clear n0_ n1_ n2_ n3_; clear hb hbox hg; have hcz13_0 : w12.cell? ⟨gb407, 0, none⟩ = some (.string a0_0) := (blk_cell BK407.out 0).trans rfl; have hcz13_1 : w12.cell? ⟨gb407, 1, none⟩ = some (.string a0_1) := (blk_cell BK407.out 1).trans rfl; have hcz13_2 : w12.cell? ⟨gb407, 2, none⟩ = some (.int .i64 a0_2) := (blk_cell BK407.out 2).trans rfl; have hfz13_0 := blk_frozen BK407.out 0; have hfz13_1 := blk_frozen BK407.out 1; have hfz13_2 := blk_frozen BK407.out 2) | ((with_reducible refine gate_callee (f := 17) rfl ?_); refine goesL_ (some 14) rfl rfl Tryd.func17 (by kernel_rfl) rfl #[.agg #[.string a0_0, .string a0_1, .int .i64 a0_2], .int .i64 1048576] rfl (by (try simp only [List.map_toArray, List.map_cons, List.map_nil]); first | done | rfl | (simp only [List.length_drop, List.length_take]; rfl)) ?_; (with_reducible refine (laws_szLog.calls a0_0 a0_1 a0_2 1048576 t408 _ A2.out).mono ?_); rintro e w14 ⟨rfl, hb⟩; refine ⟨_, rfl, ?_⟩; have n0_ := Aside0.mk (blk_below (g := gb407) (o := .cells #[.string a0_0, .string a0_1, .int .i64 a0_2] 36 (0, 0)) (by (with_reducible repeat (first | refine blk_drewN ?_ _ | refine blk_drew ?_ | refine blk_alloc ?_ _)); exact BK407.out) hb); have n1_ := Aside0.mk (below_step (by repeat (first | (with_reducible first | exact HB.out | apply below_alloc | apply pw_below_drewN | apply below_drew1 | refine below_set ?_ GE407.out) | exact HB.out)) hb); clear BK407; clear HB; have BK407 := n0_; have HB := n1_; clear n0_ n1_; (try clear hb); (try clear hb2); (try clear hk); (try clear hi); have hcz15_0 : w14.cell? ⟨gb407, 0, none⟩ = some (.string a0_0) := (blk_cell BK407.out 0).trans rfl; have hcz15_1 : w14.cell? ⟨gb407, 1, none⟩ = some (.string a0_1) := (blk_cell BK407.out 1).trans rfl; have hcz15_2 : w14.cell? ⟨gb407, 2, none⟩ = some (.int .i64 a0_2) := (blk_cell BK407.out 2).trans rfl; have hfz15_0 := blk_frozen BK407.out 0; have hfz15_1 := blk_frozen BK407.out 1; have hfz15_2 := blk_frozen BK407.out 2) | ((with_reducible refine gate_callee (f := 19) rfl ?_); refine goesL_ (some 19) rfl rfl Tryd.func19 (by kernel_rfl) rfl #[.agg #[.string a0_0, .string a0_1, .int .i64 a0_2]] rfl (by (try simp only [List.map_toArray, List.map_cons, List.map_nil]); first | done | rfl | (simp only [List.length_drop, List.length_take]; rfl)) ?_; (with_reducible refine (laws_toLog.calls a0_0 a0_1 a0_2 t409 t410 t411 _ A7.out).mono ?_); rintro e w16 ⟨rfl, hb⟩; refine ⟨_, rfl, ?_⟩; have n0_ := Aside0.mk (blk_below (g := gb407) (o := .cells #[.string a0_0, .string a0_1, .int .i64 a0_2] 36 (0, 0)) (by (with_reducible repeat (first | refine blk_drewN ?_ _ | refine blk_drew ?_ | refine blk_alloc ?_ _)); exact BK407.out) hb); have n1_ := Aside0.mk (below_step (by repeat (first | (with_reducible first | exact HB.out | apply below_alloc | apply pw_below_drewN | apply below_drew1 | refine below_set ?_ GE407.out) | exact HB.out)) hb); clear BK407; clear HB; have BK407 := n0_; have HB := n1_; clear n0_ n1_; (try clear hb); (try clear hb2); (try clear hk); (try clear hi)) | ((with_reducible refine gate_callee (f := 27) rfl ?_); refine goesL_ (some 20) rfl rfl Tryd.func27 (by kernel_rfl) rfl #[.agg #[.string t409, .string t410, .int .i64 t411]] rfl (by (try simp only [List.map_toArray, List.map_cons, List.map_nil]); first | done | rfl | (simp only [List.length_drop, List.length_take]; rfl)) ?_; (with_reducible refine (spec_LogRecords.calls k t409 t410 t411 t412 t415 _ A8.out).mono ?_); rintro e w17 ⟨v413, rfl, ho0, hb⟩; refine ⟨_, rfl, ?_⟩; have n0_ := Aside0.mk (Kd.R_lower ho0 (below_size (by repeat (first | (with_reducible first | exact HB.out | apply below_alloc | apply pw_below_drewN | apply below_drew1 | refine below_set ?_ GE407.out) | exact HB.out)))); have n1_ := Aside0.mk (blk_below (g := gb407) (o := .cells #[.string a0_0, .string a0_1, .int .i64 a0_2] 36 (0, 0)) (by (with_reducible repeat (first | refine blk_drewN ?_ _ | refine blk_drew ?_ | refine blk_alloc ?_ _)); exact BK407.out) hb); have n2_ := Aside0.mk (below_step (by repeat (first | (with_reducible first | exact HB.out | apply below_alloc | apply pw_below_drewN | apply below_drew1 | refine below_set ?_ GE407.out) | exact HB.out)) hb); clear BK407; clear HB; have HO414 := n0_; have BK407 := n1_; have HB := n2_; clear n0_ n1_ n2_; (try clear hb); (try clear hb2); (try clear hk); (try clear hi); (try clear ho0); have hcz18_0 : w17.cell? ⟨gb407, 0, none⟩ = some (.string a0_0) := (blk_cell BK407.out 0).trans rfl; have hcz18_1 : w17.cell? ⟨gb407, 1, none⟩ = some (.string a0_1) := (blk_cell BK407.out 1).trans rfl; have hcz18_2 : w17.cell? ⟨gb407, 2, none⟩ = some (.int .i64 a0_2) := (blk_cell BK407.out 2).trans rfl; have hfz18_0 := blk_frozen BK407.out 0; have hfz18_1 := blk_frozen BK407.out 1; have hfz18_2 := blk_frozen BK407.out 2) | ((with_reducible refine gate_callee (f := 19) rfl ?_); refine goesL_ (some 25) rfl rfl Tryd.func19 (by kernel_rfl) rfl #[.agg #[.string a0_0, .string a0_1, .int .i64 a0_2]] rfl (by (try simp only [List.map_toArray, List.map_cons, List.map_nil]); first | done | rfl | (simp only [List.length_drop, List.length_take]; rfl)) ?_; (with_reducible refine (laws_toLog.calls a0_0 a0_1 a0_2 t416 t417 t418 _ A9.out).mono ?_); rintro e w19 ⟨rfl, hb⟩; refine ⟨_, rfl, ?_⟩; have n0_ := Aside0.mk (Kd.R_below (by (with_reducible repeat (first | apply Kd.R_alloc | apply Kd.R_drewN | apply Kd.R_drew)); exact HO414.out) hb); have n1_ := Aside0.mk (blk_below (g := gb407) (o := .cells #[.string a0_0, .string a0_1, .int .i64 a0_2] 36 (0, 0)) (by (with_reducible repeat (first | refine blk_drewN ?_ _ | refine blk_drew ?_ | refine blk_alloc ?_ _)); exact BK407.out) hb); have n2_ := Aside0.mk (below_step (by repeat (first | (with_reducible first | exact HB.out | apply below_alloc | apply pw_below_drewN | apply below_drew1 | refine below_set ?_ GE407.out) | exact HB.out)) hb); clear HO414; clear BK407; clear HB; have HO414 := n0_; have BK407 := n1_; have HB := n2_; clear n0_ n1_ n2_; (try clear hb); (try clear hb2); (try clear hk); (try clear hi)) | ((with_reducible refine gate_callee (f := 28) rfl ?_); refine goesL_ (some 26) rfl rfl Tryd.func28 (by kernel_rfl) rfl #[.agg #[.string t416, .string t417, .int .i64 t418]] rfl (by (try simp only [List.map_toArray, List.map_cons, List.map_nil]); first | done | rfl | (simp only [List.length_drop, List.length_take]; rfl)) ?_; (with_reducible refine (impl_LogRecords.calls k t416 t417 t418 t419 t422 _ ?side1 A10.out).mono ?_); (case side1 => exact TabOK.below HT.out (by repeat (first | (with_reducible first | exact HB.out | apply below_alloc | apply pw_below_drewN | apply below_drew1 | refine below_set ?_ GE407.out) | exact HB.out))); rintro e w20 ⟨v420, rfl, ho0, hb⟩; refine ⟨_, rfl, ?_⟩; have n0_ := Aside0.mk (Kd.R_elder' (by (with_reducible repeat (first | apply Kd.R_alloc | apply Kd.R_drewN | apply Kd.R_drew)); exact HO414.out) (Kd.R_base ho0) hb); have n1_ := Aside0.mk (Kd.R_lower (Kd.R_new' ho0 (Kd.R_lt (by (with_reducible repeat (first | apply Kd.R_alloc | apply Kd.R_drewN | apply Kd.R_drew)); exact HO414.out))) (below_size (by repeat (first | (with_reducible first | exact HB.out | apply below_alloc | apply pw_below_drewN | apply below_drew1 | refine below_set ?_ GE407.out) | exact HB.out)))); have n2_ := Aside0.mk (blk_below (g := gb407) (o := .cells #[.string a0_0, .string a0_1, .int .i64 a0_2] 36 (0, 0)) (by (with_reducible repeat (first | refine blk_drewN ?_ _ | refine blk_drew ?_ | refine blk_alloc ?_ _)); exact BK407.out) hb); have n3_ := Aside0.mk (below_step (by repeat (first | (with_reducible first | exact HB.out | apply below_alloc | apply pw_below_drewN | apply below_drew1 | refine below_set ?_ GE407.out) | exact HB.out)) hb); clear HO414; clear BK407; clear HB; have HO414 := n0_; have HO421 := n1_; have BK407 := n2_; have HB := n3_; clear n0_ n1_ n2_ n3_; (try clear hb); (try clear hb2); (try clear hk); (try clear hi); (try clear ho0)))
    (try simp only [Act.put, List.setIfInBounds_toArray, List.set_cons_zero, List.set_cons_succ])
    go_cut [37] (fun v37 wc => ∃ (kq : Nat) (x37_10 : Bool), v37 = .bool x37_10 ∧ Aside0 (laws_FnExactLogRecords.j0 kq t412 t415 t419 x37_10 a0_0 a0_1 a0_2 = some r) ∧ Aside0 (kq ≤ k) ∧ Aside0 (Kd.R k27 27 wc w.heap.size (fun k_ => some k_ ≠ (v420 : Value).ownBlock) v413 t412) ∧ Aside0 (Kd.R k27 27 wc w.heap.size (fun k_ => some k_ ≠ (v413 : Value).ownBlock) v420 t419) ∧ Aside0 (wc.heap[gb407]? = some (.cells #[.string a0_0, .string a0_1, .int .i64 a0_2] 36 (0, 0))) ∧ Aside0 (Below w.heap.size w wc))
    case first =>
      have H := HC11.out
      clear HC11
      replace H := Option.bind_eq_some_iff.mp H
      obtain ⟨t423, A210, H⟩ := H
      replace H : (if t423 = true then (laws_FnExactLogRecords.j0 k t412 t415 t419 (t422 != t415) a0_0 a0_1 a0_2) else (laws_FnExactLogRecords.j0 k t412 t415 t419 true a0_0 a0_1 a0_2)) = some r := H
      have A21 := Aside0.mk A210
      clear A210
      by_cases c22 : t423 = true
      · subst c22
        have H1 : (laws_FnExactLogRecords.j0 k t412 t415 t419 (t422 != t415) a0_0 a0_1 a0_2) = some r := by rw [if_pos rfl] at H; exact H
        clear H
        have H := H1
        clear H1
        have H' := Aside0.mk H
        clear H
        obtain ⟨Ao23, co23, eo23⟩ := Kd.R_slice HO421.out
        subst eo23
        obtain ⟨Ao24, co24, eo24⟩ := Kd.R_slice HO414.out
        subst eo24
        go_wp2_with (first | ((with_reducible refine gate_callee (f := 29) rfl ?_); refine goesL_ (some 31) rfl rfl Tryd.func29 (by kernel_rfl) rfl #[.slice Ao23 t419.length co23, .slice Ao24 t412.length co24] rfl (by (try simp only [List.map_toArray, List.map_cons, List.map_nil]); first | done | rfl | (simp only [List.length_drop, List.length_take]; rfl)) ?_; (with_reducible refine (laws_eqLogRecordS.calls k _ _ t419 _ _ t412 true _ ?side1 ?side2 ?side3 ?side4 A21.out).mono ?_); (case side1 => repeat (first | exact (Kd.R_reads' HO421.out).2.2 | (with_reducible refine Kd.C_alloc ?_ _) | (with_reducible refine Kd.C_drewN ?_ _) | (with_reducible refine Kd.C_drew ?_))); (case side2 => exact (Kd.R_reads' HO421.out).2.1); (case side3 => repeat (first | exact (Kd.R_reads' HO414.out).2.2 | (with_reducible refine Kd.C_alloc ?_ _) | (with_reducible refine Kd.C_drewN ?_ _) | (with_reducible refine Kd.C_drew ?_))); (case side4 => exact (Kd.R_reads' HO414.out).2.1); rintro e w25 ⟨rfl, hb⟩; refine ⟨_, rfl, ?_⟩; have n0_ := Aside0.mk (Kd.R_below (by (with_reducible repeat (first | apply Kd.R_alloc | apply Kd.R_drewN | apply Kd.R_drew)); exact HO414.out) hb); have n1_ := Aside0.mk (Kd.R_below (by (with_reducible repeat (first | apply Kd.R_alloc | apply Kd.R_drewN | apply Kd.R_drew)); exact HO421.out) hb); have n2_ := Aside0.mk (blk_below (g := gb407) (o := .cells #[.string a0_0, .string a0_1, .int .i64 a0_2] 36 (0, 0)) (by (with_reducible repeat (first | refine blk_drewN ?_ _ | refine blk_drew ?_ | refine blk_alloc ?_ _)); exact BK407.out) hb); have n3_ := Aside0.mk (below_step (by repeat (first | (with_reducible first | exact HB.out | apply below_alloc | apply pw_below_drewN | apply below_drew1 | refine below_set ?_ GE407.out) | exact HB.out)) hb); clear HO414; clear HO421; clear BK407; clear HB; have HO414 := n0_; have HO421 := n1_; have BK407 := n2_; have HB := n3_; clear n0_ n1_ n2_ n3_; (try clear hb); (try clear hb2); (try clear hk); (try clear hi)))
        go_meet
        case rel => exact ⟨_, ((t422 != t415)), (by first | rfl | (simp; done) | (simp [*]; done)), H', ⟨by first | omega | exact Nat.le_refl _⟩, ⟨by (with_reducible repeat (first | apply Kd.R_alloc | apply Kd.R_drewN | apply Kd.R_drew)); exact Kd.R_mono HO414.out (fun _ hk => hk.2)⟩, ⟨by (with_reducible repeat (first | apply Kd.R_alloc | apply Kd.R_drewN | apply Kd.R_drew)); exact Kd.R_mono HO421.out (fun _ hk => hk.2)⟩, ⟨by (with_reducible repeat (first | refine blk_drewN ?_ _ | refine blk_drew ?_ | refine blk_alloc ?_ _)); exact BK407.out⟩, ⟨by repeat (first | (with_reducible first | exact HB.out | apply below_alloc | apply pw_below_drewN | apply below_drew1 | refine below_set ?_ GE407.out) | exact HB.out)⟩⟩
      · replace c22 := Bool.eq_false_iff.mpr c22
        subst c22
        have H1 : (laws_FnExactLogRecords.j0 k t412 t415 t419 true a0_0 a0_1 a0_2) = some r := by rw [if_neg (show ¬ (false = true) by decide)] at H; exact H
        clear H
        have H := H1
        clear H1
        have H' := Aside0.mk H
        clear H
        obtain ⟨Ao26, co26, eo26⟩ := Kd.R_slice HO421.out
        subst eo26
        obtain ⟨Ao27, co27, eo27⟩ := Kd.R_slice HO414.out
        subst eo27
        go_wp2_with (first | ((with_reducible refine gate_callee (f := 29) rfl ?_); refine goesL_ (some 31) rfl rfl Tryd.func29 (by kernel_rfl) rfl #[.slice Ao26 t419.length co26, .slice Ao27 t412.length co27] rfl (by (try simp only [List.map_toArray, List.map_cons, List.map_nil]); first | done | rfl | (simp only [List.length_drop, List.length_take]; rfl)) ?_; (with_reducible refine (laws_eqLogRecordS.calls k _ _ t419 _ _ t412 false _ ?side1 ?side2 ?side3 ?side4 A21.out).mono ?_); (case side1 => repeat (first | exact (Kd.R_reads' HO421.out).2.2 | (with_reducible refine Kd.C_alloc ?_ _) | (with_reducible refine Kd.C_drewN ?_ _) | (with_reducible refine Kd.C_drew ?_))); (case side2 => exact (Kd.R_reads' HO421.out).2.1); (case side3 => repeat (first | exact (Kd.R_reads' HO414.out).2.2 | (with_reducible refine Kd.C_alloc ?_ _) | (with_reducible refine Kd.C_drewN ?_ _) | (with_reducible refine Kd.C_drew ?_))); (case side4 => exact (Kd.R_reads' HO414.out).2.1); rintro e w28 ⟨rfl, hb⟩; refine ⟨_, rfl, ?_⟩; have n0_ := Aside0.mk (Kd.R_below (by (with_reducible repeat (first | apply Kd.R_alloc | apply Kd.R_drewN | apply Kd.R_drew)); exact HO414.out) hb); have n1_ := Aside0.mk (Kd.R_below (by (with_reducible repeat (first | apply Kd.R_alloc | apply Kd.R_drewN | apply Kd.R_drew)); exact HO421.out) hb); have n2_ := Aside0.mk (blk_below (g := gb407) (o := .cells #[.string a0_0, .string a0_1, .int .i64 a0_2] 36 (0, 0)) (by (with_reducible repeat (first | refine blk_drewN ?_ _ | refine blk_drew ?_ | refine blk_alloc ?_ _)); exact BK407.out) hb); have n3_ := Aside0.mk (below_step (by repeat (first | (with_reducible first | exact HB.out | apply below_alloc | apply pw_below_drewN | apply below_drew1 | refine below_set ?_ GE407.out) | exact HB.out)) hb); clear HO414; clear HO421; clear BK407; clear HB; have HO414 := n0_; have HO421 := n1_; have BK407 := n2_; have HB := n3_; clear n0_ n1_ n2_ n3_; (try clear hb); (try clear hb2); (try clear hk); (try clear hi)))
        go_meet
        case rel => exact ⟨_, (true), (by first | rfl | (simp; done) | (simp [*]; done)), H', ⟨by first | omega | exact Nat.le_refl _⟩, ⟨by (with_reducible repeat (first | apply Kd.R_alloc | apply Kd.R_drewN | apply Kd.R_drew)); exact Kd.R_mono HO414.out (fun _ hk => hk.2)⟩, ⟨by (with_reducible repeat (first | apply Kd.R_alloc | apply Kd.R_drewN | apply Kd.R_drew)); exact Kd.R_mono HO421.out (fun _ hk => hk.2)⟩, ⟨by (with_reducible repeat (first | refine blk_drewN ?_ _ | refine blk_drew ?_ | refine blk_alloc ?_ _)); exact BK407.out⟩, ⟨by repeat (first | (with_reducible first | exact HB.out | apply below_alloc | apply pw_below_drewN | apply below_drew1 | refine below_set ?_ GE407.out) | exact HB.out)⟩⟩
    case rest =>
      clear HC11
      try clear c1
      try clear c2
      try clear p2
      try clear c3
      try clear c3b0
      try clear c9
      try clear c17
      try clear c19
      try clear c22
      try clear c27
      try clear c28
      try clear hcz13_0
      try clear hcz13_1
      try clear hcz13_2
      try clear hcz15_0
      try clear hcz15_1
      try clear hcz15_2
      try clear hcz18_0
      try clear hcz18_1
      try clear hcz18_2
      try clear hcz5_0
      try clear hcz5_1
      try clear hcz5_2
      try clear hfz13_0
      try clear hfz13_1
      try clear hfz13_2
      try clear hfz15_0
      try clear hfz15_1
      try clear hfz15_2
      try clear hfz18_0
      try clear hfz18_1
      try clear hfz18_2
      try clear hfz5_0
      try clear hfz5_1
      try clear hfz5_2
      obtain ⟨kq, x37_10, rfl, HA, HJ10, HO_4, HO_6, BK407, HB⟩ := hcut
      cases kq with
      | zero => exact absurd HA.out (by simp [laws_FnExactLogRecords.j0])
      | succ kj10 =>
        have H := HA.out
        clear HA
        simp only [laws_FnExactLogRecords.j0] at H
        by_cases c29 : x37_10 = true
        · subst c29
          have H1 : (some false) = some r := by rw [if_pos rfl] at H; exact H
          clear H
          have H := H1
          clear H1
          obtain rfl := Option.some.inj H
          go_wp2
          go_ret
          exact ⟨by first | rfl | (simp [errW_none, errW_some] <;> rfl) | (simp [*, errW_none, errW_some] <;> rfl), by repeat (first | (with_reducible first | exact HB.out | apply below_alloc | apply pw_below_drewN | apply below_drew1 | refine below_set ?_ GE407.out) | exact HB.out)⟩
        · replace c29 := Bool.eq_false_iff.mpr c29
          subst c29
          have H1 : ((laws_markLogRecordS.f kj10 t419 1).bind fun bt424 => ((laws_heldLogRecordS.f kj10 bt424.2 1).bind fun t426 => (if t426 < 0 then (some false) else (if t426 = bt424.1 then ((laws_toLog.f a0_0 a0_1 a0_2).bind fun bt427 => ((impl_LogRecords.f kj10 bt427.1 bt427.2.1 bt427.2.2).bind fun bt430 => ((laws_eqLogRecordS.f kj10 bt430.1 t412).bind fun t434 => (if t434 = true then (laws_FnExactLogRecords.j1 kj10 bt424.2 bt424.1 (bt430.2 != t415)) else (laws_FnExactLogRecords.j1 kj10 bt424.2 bt424.1 true))))) else (some false))))) = some r := by rw [if_neg (show ¬ (false = true) by decide)] at H; exact H
          clear H
          have H := H1
          clear H1
          replace H := Option.bind_eq_some_iff.mp H
          obtain ⟨⟨t424, t425⟩, A300, H⟩ := H
          replace H : ((laws_heldLogRecordS.f kj10 t425 1).bind fun t426 => (if t426 < 0 then (some false) else (if t426 = t424 then ((laws_toLog.f a0_0 a0_1 a0_2).bind fun bt427 => ((impl_LogRecords.f kj10 bt427.1 bt427.2.1 bt427.2.2).bind fun bt430 => ((laws_eqLogRecordS.f kj10 bt430.1 t412).bind fun t434 => (if t434 = true then (laws_FnExactLogRecords.j1 kj10 t425 t424 (bt430.2 != t415)) else (laws_FnExactLogRecords.j1 kj10 t425 t424 true))))) else (some false)))) = some r := H
          have A30 := Aside0.mk A300
          clear A300
          replace H := Option.bind_eq_some_iff.mp H
          obtain ⟨t426, A310, H⟩ := H
          replace H : (if t426 < 0 then (some false) else (if t426 = t424 then ((laws_toLog.f a0_0 a0_1 a0_2).bind fun bt427 => ((impl_LogRecords.f kj10 bt427.1 bt427.2.1 bt427.2.2).bind fun bt430 => ((laws_eqLogRecordS.f kj10 bt430.1 t412).bind fun t434 => (if t434 = true then (laws_FnExactLogRecords.j1 kj10 t425 t424 (bt430.2 != t415)) else (laws_FnExactLogRecords.j1 kj10 t425 t424 true))))) else (some false))) = some r := H
          have A31 := Aside0.mk A310
          clear A310
          by_cases c32 : t426 < 0
          · rw [if_pos c32] at H
            have c32b0 : decide (t426 < 0) = true := decide_eq_true c32
            clear c32
            obtain rfl := Option.some.inj H
            obtain ⟨Ao33, co33, eo33⟩ := Kd.R_slice HO_6.out
            subst eo33
            go_wp2_with (first | ((with_reducible refine gate_callee (f := 30) rfl ?_); refine goesL_ (some 40) rfl rfl Tryd.func30 (by kernel_rfl) rfl #[.slice Ao33 t419.length co33, .int .i64 1] rfl (by (try simp only [List.map_toArray, List.map_cons, List.map_nil]); first | done | rfl | (simp only [List.length_drop, List.length_take]; rfl)) ?_; (with_reducible refine (laws_markLogRecordS.calls kj10 (fun k_ => some k_ = (.slice Ao33 t419.length co33 : Value).ownBlock) (.slice Ao33 t419.length co33) t419 1 t424 t425 w _ ?side1 ?side2 A30.out).mono ?_); (case side1 => repeat (first | (with_reducible first | exact HB.out | apply below_alloc | apply pw_below_drewN | apply below_drew1 | refine below_set ?_ GE407.out) | exact HB.out)); (case side2 => exact Kd.R_tight rfl HO_6.out); rintro e w34 ⟨rfl, hy0, hb, hkp⟩; refine ⟨_, rfl, ?_⟩; have n0_ := Aside0.mk (Kd.R_mono (ok' := fun k_ => some k_ ≠ (.slice Ao33 t419.length co33 : Value).ownBlock) (Kd.R_keptB (HO_4.out) hkp (fun k_ hk_ hs_ => (hk_) hs_)) (fun k_ hk_ => hk_.1)); have n1_ := Aside0.mk (Kd.R_reok rfl hy0 (fun k_ e_ => HO_6.out.1 k_ e_)); have n2_ := Aside0.mk (blk_kept (by (with_reducible repeat (first | refine blk_drewN ?_ _ | refine blk_drew ?_ | refine blk_alloc ?_ _)); exact BK407.out) hkp (fun hs_ => (fun e_ => (Kd.R_ne HO_6.out BK407.out (by decide)) e_) hs_)); have n3_ := Aside0.mk (hb); clear HO_4; clear HO_6; clear BK407; clear HB; have HO_4 := n0_; have HO_6 := n1_; have BK407 := n2_; have HB := n3_; clear n0_ n1_ n2_ n3_; (try clear hb); (try clear hkp); (try clear hy0)) | ((with_reducible refine gate_callee (f := 31) rfl ?_); refine goesL_ (some 43) rfl rfl Tryd.func31 (by kernel_rfl) rfl #[.slice Ao33 t425.length co33, .int .i64 1] rfl (by (try simp only [List.map_toArray, List.map_cons, List.map_nil]); first | done | (rw [show t425.length = t419.length from (Kd.R_reads' HO_6.out).1.symm] <;> rfl) | rfl | (simp only [List.length_drop, List.length_take]; rfl)) ?_; (with_reducible refine (laws_heldLogRecordS.calls kj10 _ _ t425 1 t426 _ ?side1 ?side2 A31.out).mono ?_); (case side1 => repeat (first | exact (Kd.R_reads' HO_6.out).2.2 | (with_reducible refine Kd.C_alloc ?_ _) | (with_reducible refine Kd.C_drewN ?_ _) | (with_reducible refine Kd.C_drew ?_))); (case side2 => rw [show t425.length = t419.length from (Kd.R_reads' HO_6.out).1.symm]; exact (Kd.R_reads' HO_6.out).2.1); rintro e w35 ⟨rfl, hb⟩; refine ⟨_, rfl, ?_⟩; have n0_ := Aside0.mk (Kd.R_below (by (with_reducible repeat (first | apply Kd.R_alloc | apply Kd.R_drewN | apply Kd.R_drew)); exact HO_4.out) hb); have n1_ := Aside0.mk (Kd.R_below (by (with_reducible repeat (first | apply Kd.R_alloc | apply Kd.R_drewN | apply Kd.R_drew)); exact HO_6.out) hb); have n2_ := Aside0.mk (blk_below (g := gb407) (o := .cells #[.string a0_0, .string a0_1, .int .i64 a0_2] 36 (0, 0)) (by (with_reducible repeat (first | refine blk_drewN ?_ _ | refine blk_drew ?_ | refine blk_alloc ?_ _)); exact BK407.out) hb); have n3_ := Aside0.mk (below_step (by repeat (first | (with_reducible first | exact HB.out | apply below_alloc | apply pw_below_drewN | apply below_drew1 | refine below_set ?_ GE407.out) | exact HB.out)) hb); clear HO_4; clear HO_6; clear BK407; clear HB; have HO_4 := n0_; have HO_6 := n1_; have BK407 := n2_; have HB := n3_; clear n0_ n1_ n2_ n3_; (try clear hb); (try clear hb2); (try clear hk); (try clear hi)))
            go_ret
            exact ⟨by first | rfl | (simp [errW_none, errW_some] <;> rfl) | (simp [*, errW_none, errW_some] <;> rfl), by repeat (first | (with_reducible first | exact HB.out | apply below_alloc | apply pw_below_drewN | apply below_drew1 | refine below_set ?_ GE407.out) | exact HB.out)⟩
          · rw [if_neg c32] at H
            have c32b0 : decide (t426 < 0) = false := decide_eq_false c32
            clear c32
            by_cases c36 : t426 = t424
            · rw [if_pos c36] at H
              have c36b0 : (t426 == t424) = true := beq_iff_eq.mpr c36
              have c36b1 : (t426 != t424) = false := bne_eq_false_iff_eq.mpr c36
              clear c36
              replace H := Option.bind_eq_some_iff.mp H
              obtain ⟨⟨t427, t428, t429⟩, A370, H⟩ := H
              replace H : ((impl_LogRecords.f kj10 t427 t428 t429).bind fun bt430 => ((laws_eqLogRecordS.f kj10 bt430.1 t412).bind fun t434 => (if t434 = true then (laws_FnExactLogRecords.j1 kj10 t425 t424 (bt430.2 != t415)) else (laws_FnExactLogRecords.j1 kj10 t425 t424 true)))) = some r := H
              have A37 := Aside0.mk A370
              clear A370
              replace H := Option.bind_eq_some_iff.mp H
              obtain ⟨⟨t430, t433⟩, A380, H⟩ := H
              replace H : ((laws_eqLogRecordS.f kj10 t430 t412).bind fun t434 => (if t434 = true then (laws_FnExactLogRecords.j1 kj10 t425 t424 (t433 != t415)) else (laws_FnExactLogRecords.j1 kj10 t425 t424 true))) = some r := H
              have A38 := Aside0.mk A380
              clear A380
              have HC39 := Aside0.mk H
              clear H
              obtain ⟨Ao40, co40, eo40⟩ := Kd.R_slice HO_6.out
              subst eo40
              go_upto_region 18 with (first | ((with_reducible refine gate_callee (f := 30) rfl ?_); refine goesL_ (some 40) rfl rfl Tryd.func30 (by kernel_rfl) rfl #[.slice Ao40 t419.length co40, .int .i64 1] rfl (by (try simp only [List.map_toArray, List.map_cons, List.map_nil]); first | done | rfl | (simp only [List.length_drop, List.length_take]; rfl)) ?_; (with_reducible refine (laws_markLogRecordS.calls kj10 (fun k_ => some k_ = (.slice Ao40 t419.length co40 : Value).ownBlock) (.slice Ao40 t419.length co40) t419 1 t424 t425 w _ ?side1 ?side2 A30.out).mono ?_); (case side1 => repeat (first | (with_reducible first | exact HB.out | apply below_alloc | apply pw_below_drewN | apply below_drew1 | refine below_set ?_ GE407.out) | exact HB.out)); (case side2 => exact Kd.R_tight rfl HO_6.out); rintro e w41 ⟨rfl, hy0, hb, hkp⟩; refine ⟨_, rfl, ?_⟩; have n0_ := Aside0.mk (Kd.R_mono (ok' := fun k_ => some k_ ≠ (.slice Ao40 t419.length co40 : Value).ownBlock) (Kd.R_keptB (HO_4.out) hkp (fun k_ hk_ hs_ => (hk_) hs_)) (fun k_ hk_ => hk_.1)); have n1_ := Aside0.mk (Kd.R_reok rfl hy0 (fun k_ e_ => HO_6.out.1 k_ e_)); have n2_ := Aside0.mk (blk_kept (by (with_reducible repeat (first | refine blk_drewN ?_ _ | refine blk_drew ?_ | refine blk_alloc ?_ _)); exact BK407.out) hkp (fun hs_ => (fun e_ => (Kd.R_ne HO_6.out BK407.out (by decide)) e_) hs_)); have n3_ := Aside0.mk (hb); clear HO_4; clear HO_6; clear BK407; clear HB; have HO_4 := n0_; have HO_6 := n1_; have BK407 := n2_; have HB := n3_; clear n0_ n1_ n2_ n3_; (try clear hb); (try clear hkp); (try clear hy0)) | ((with_reducible refine gate_callee (f := 31) rfl ?_); refine goesL_ (some 43) rfl rfl Tryd.func31 (by kernel_rfl) rfl #[.slice Ao40 t425.length co40, .int .i64 1] rfl (by (try simp only [List.map_toArray, List.map_cons, List.map_nil]); first | done | (rw [show t425.length = t419.length from (Kd.R_reads' HO_6.out).1.symm] <;> rfl) | rfl | (simp only [List.length_drop, List.length_take]; rfl)) ?_; (with_reducible refine (laws_heldLogRecordS.calls kj10 _ _ t425 1 t426 _ ?side1 ?side2 A31.out).mono ?_); (case side1 => repeat (first | exact (Kd.R_reads' HO_6.out).2.2 | (with_reducible refine Kd.C_alloc ?_ _) | (with_reducible refine Kd.C_drewN ?_ _) | (with_reducible refine Kd.C_drew ?_))); (case side2 => rw [show t425.length = t419.length from (Kd.R_reads' HO_6.out).1.symm]; exact (Kd.R_reads' HO_6.out).2.1); rintro e w42 ⟨rfl, hb⟩; refine ⟨_, rfl, ?_⟩; have n0_ := Aside0.mk (Kd.R_below (by (with_reducible repeat (first | apply Kd.R_alloc | apply Kd.R_drewN | apply Kd.R_drew)); exact HO_4.out) hb); have n1_ := Aside0.mk (Kd.R_below (by (with_reducible repeat (first | apply Kd.R_alloc | apply Kd.R_drewN | apply Kd.R_drew)); exact HO_6.out) hb); have n2_ := Aside0.mk (blk_below (g := gb407) (o := .cells #[.string a0_0, .string a0_1, .int .i64 a0_2] 36 (0, 0)) (by (with_reducible repeat (first | refine blk_drewN ?_ _ | refine blk_drew ?_ | refine blk_alloc ?_ _)); exact BK407.out) hb); have n3_ := Aside0.mk (below_step (by repeat (first | (with_reducible first | exact HB.out | apply below_alloc | apply pw_below_drewN | apply below_drew1 | refine below_set ?_ GE407.out) | exact HB.out)) hb); clear HO_4; clear HO_6; clear BK407; clear HB; have HO_4 := n0_; have HO_6 := n1_; have BK407 := n2_; have HB := n3_; clear n0_ n1_ n2_ n3_; (try clear hb); (try clear hb2); (try clear hk); (try clear hi); have hcz43_0 : w42.cell? ⟨gb407, 0, none⟩ = some (.string a0_0) := (blk_cell BK407.out 0).trans rfl; have hcz43_1 : w42.cell? ⟨gb407, 1, none⟩ = some (.string a0_1) := (blk_cell BK407.out 1).trans rfl; have hcz43_2 : w42.cell? ⟨gb407, 2, none⟩ = some (.int .i64 a0_2) := (blk_cell BK407.out 2).trans rfl; have hfz43_0 := blk_frozen BK407.out 0; have hfz43_1 := blk_frozen BK407.out 1; have hfz43_2 := blk_frozen BK407.out 2) | ((with_reducible refine gate_callee (f := 19) rfl ?_); refine goesL_ (some 51) rfl rfl Tryd.func19 (by kernel_rfl) rfl #[.agg #[.string a0_0, .string a0_1, .int .i64 a0_2]] rfl (by (try simp only [List.map_toArray, List.map_cons, List.map_nil]); first | done | rfl | (simp only [List.length_drop, List.length_take]; rfl)) ?_; (with_reducible refine (laws_toLog.calls a0_0 a0_1 a0_2 t427 t428 t429 _ A37.out).mono ?_); rintro e w44 ⟨rfl, hb⟩; refine ⟨_, rfl, ?_⟩; have n0_ := Aside0.mk (Kd.R_below (by (with_reducible repeat (first | apply Kd.R_alloc | apply Kd.R_drewN | apply Kd.R_drew)); exact HO_4.out) hb); have n1_ := Aside0.mk (Kd.R_below (by (with_reducible repeat (first | apply Kd.R_alloc | apply Kd.R_drewN | apply Kd.R_drew)); exact HO_6.out) hb); have n2_ := Aside0.mk (blk_below (g := gb407) (o := .cells #[.string a0_0, .string a0_1, .int .i64 a0_2] 36 (0, 0)) (by (with_reducible repeat (first | refine blk_drewN ?_ _ | refine blk_drew ?_ | refine blk_alloc ?_ _)); exact BK407.out) hb); have n3_ := Aside0.mk (below_step (by repeat (first | (with_reducible first | exact HB.out | apply below_alloc | apply pw_below_drewN | apply below_drew1 | refine below_set ?_ GE407.out) | exact HB.out)) hb); clear HO_4; clear HO_6; clear BK407; clear HB; have HO_4 := n0_; have HO_6 := n1_; have BK407 := n2_; have HB := n3_; clear n0_ n1_ n2_ n3_; (try clear hb); (try clear hb2); (try clear hk); (try clear hi)) | ((with_reducible refine gate_callee (f := 28) rfl ?_); refine goesL_ (some 52) rfl rfl Tryd.func28 (by kernel_rfl) rfl #[.agg #[.string t427, .string t428, .int .i64 t429]] rfl (by (try simp only [List.map_toArray, List.map_cons, List.map_nil]); first | done | rfl | (simp only [List.length_drop, List.length_take]; rfl)) ?_; (with_reducible refine (impl_LogRecords.calls kj10 t427 t428 t429 t430 t433 _ ?side1 A38.out).mono ?_); (case side1 => exact TabOK.below HT.out (by repeat (first | (with_reducible first | exact HB.out | apply below_alloc | apply pw_below_drewN | apply below_drew1 | refine below_set ?_ GE407.out) | exact HB.out))); rintro e w45 ⟨v431, rfl, ho0, hb⟩; refine ⟨_, rfl, ?_⟩; have n0_ := Aside0.mk (Kd.R_elder' (by (with_reducible repeat (first | apply Kd.R_alloc | apply Kd.R_drewN | apply Kd.R_drew)); exact HO_4.out) (Kd.R_base ho0) hb); have n1_ := Aside0.mk (Kd.R_elder' (by (with_reducible repeat (first | apply Kd.R_alloc | apply Kd.R_drewN | apply Kd.R_drew)); exact HO_6.out) (Kd.R_base ho0) hb); have n2_ := Aside0.mk (Kd.R_lower (Kd.R_new' (Kd.R_new' ho0 (Kd.R_lt (by (with_reducible repeat (first | apply Kd.R_alloc | apply Kd.R_drewN | apply Kd.R_drew)); exact HO_4.out))) (Kd.R_lt (by (with_reducible repeat (first | apply Kd.R_alloc | apply Kd.R_drewN | apply Kd.R_drew)); exact HO_6.out))) (below_size (by repeat (first | (with_reducible first | exact HB.out | apply below_alloc | apply pw_below_drewN | apply below_drew1 | refine below_set ?_ GE407.out) | exact HB.out)))); have n3_ := Aside0.mk (blk_below (g := gb407) (o := .cells #[.string a0_0, .string a0_1, .int .i64 a0_2] 36 (0, 0)) (by (with_reducible repeat (first | refine blk_drewN ?_ _ | refine blk_drew ?_ | refine blk_alloc ?_ _)); exact BK407.out) hb); have n4_ := Aside0.mk (below_step (by repeat (first | (with_reducible first | exact HB.out | apply below_alloc | apply pw_below_drewN | apply below_drew1 | refine below_set ?_ GE407.out) | exact HB.out)) hb); clear HO_4; clear HO_6; clear BK407; clear HB; have HO_4 := n0_; have HO_6 := n1_; have HO432 := n2_; have BK407 := n3_; have HB := n4_; clear n0_ n1_ n2_ n3_ n4_; (try clear hb); (try clear hb2); (try clear hk); (try clear hi); (try clear ho0)))
              (try simp only [Act.put, List.setIfInBounds_toArray, List.set_cons_zero, List.set_cons_succ])
              go_cut [63] (fun v63 wc => ∃ (kq : Nat) (x63_38 : Bool), v63 = .bool x63_38 ∧ Aside0 (laws_FnExactLogRecords.j1 kq t425 t424 x63_38 = some r) ∧ Aside0 (kq ≤ kj10) ∧ Aside0 (Kd.R k27 27 wc w.heap.size (fun _ => True) (.slice Ao40 t419.length co40) t425) ∧ Aside0 (wc.heap[gb407]? = some (.cells #[.string a0_0, .string a0_1, .int .i64 a0_2] 36 (0, 0))) ∧ Aside0 (Below w.heap.size w wc))
              case first =>
                have H := HC39.out
                clear HC39
                replace H := Option.bind_eq_some_iff.mp H
                obtain ⟨t434, A460, H⟩ := H
                replace H : (if t434 = true then (laws_FnExactLogRecords.j1 kj10 t425 t424 (t433 != t415)) else (laws_FnExactLogRecords.j1 kj10 t425 t424 true)) = some r := H
                have A46 := Aside0.mk A460
                clear A460
                by_cases c47 : t434 = true
                · subst c47
                  have H1 : (laws_FnExactLogRecords.j1 kj10 t425 t424 (t433 != t415)) = some r := by rw [if_pos rfl] at H; exact H
                  clear H
                  have H := H1
                  clear H1
                  have H' := Aside0.mk H
                  clear H
                  obtain ⟨Ao48, co48, eo48⟩ := Kd.R_slice HO432.out
                  subst eo48
                  obtain ⟨Ao49, co49, eo49⟩ := Kd.R_slice HO_4.out
                  subst eo49
                  go_wp2_with (first | ((with_reducible refine gate_callee (f := 29) rfl ?_); refine goesL_ (some 57) rfl rfl Tryd.func29 (by kernel_rfl) rfl #[.slice Ao48 t430.length co48, .slice Ao49 t412.length co49] rfl (by (try simp only [List.map_toArray, List.map_cons, List.map_nil]); first | done | rfl | (simp only [List.length_drop, List.length_take]; rfl)) ?_; (with_reducible refine (laws_eqLogRecordS.calls kj10 _ _ t430 _ _ t412 true _ ?side1 ?side2 ?side3 ?side4 A46.out).mono ?_); (case side1 => repeat (first | exact (Kd.R_reads' HO432.out).2.2 | (with_reducible refine Kd.C_alloc ?_ _) | (with_reducible refine Kd.C_drewN ?_ _) | (with_reducible refine Kd.C_drew ?_))); (case side2 => exact (Kd.R_reads' HO432.out).2.1); (case side3 => repeat (first | exact (Kd.R_reads' HO_4.out).2.2 | (with_reducible refine Kd.C_alloc ?_ _) | (with_reducible refine Kd.C_drewN ?_ _) | (with_reducible refine Kd.C_drew ?_))); (case side4 => exact (Kd.R_reads' HO_4.out).2.1); rintro e w50 ⟨rfl, hb⟩; refine ⟨_, rfl, ?_⟩; have n0_ := Aside0.mk (Kd.R_below (by (with_reducible repeat (first | apply Kd.R_alloc | apply Kd.R_drewN | apply Kd.R_drew)); exact HO_4.out) hb); have n1_ := Aside0.mk (Kd.R_below (by (with_reducible repeat (first | apply Kd.R_alloc | apply Kd.R_drewN | apply Kd.R_drew)); exact HO_6.out) hb); have n2_ := Aside0.mk (Kd.R_below (by (with_reducible repeat (first | apply Kd.R_alloc | apply Kd.R_drewN | apply Kd.R_drew)); exact HO432.out) hb); have n3_ := Aside0.mk (blk_below (g := gb407) (o := .cells #[.string a0_0, .string a0_1, .int .i64 a0_2] 36 (0, 0)) (by (with_reducible repeat (first | refine blk_drewN ?_ _ | refine blk_drew ?_ | refine blk_alloc ?_ _)); exact BK407.out) hb); have n4_ := Aside0.mk (below_step (by repeat (first | (with_reducible first | exact HB.out | apply below_alloc | apply pw_below_drewN | apply below_drew1 | refine below_set ?_ GE407.out) | exact HB.out)) hb); clear HO_4; clear HO_6; clear HO432; clear BK407; clear HB; have HO_4 := n0_; have HO_6 := n1_; have HO432 := n2_; have BK407 := n3_; have HB := n4_; clear n0_ n1_ n2_ n3_ n4_; (try clear hb); (try clear hb2); (try clear hk); (try clear hi)))
                  go_meet
                  case rel => exact ⟨_, ((t433 != t415)), (by first | rfl | (simp; done) | (simp [*]; done)), H', ⟨by have := HJ10.out; first | omega | exact Nat.le_refl _⟩, ⟨by (with_reducible repeat (first | apply Kd.R_alloc | apply Kd.R_drewN | apply Kd.R_drew)); exact Kd.R_mono HO_6.out (fun _ hk => trivial)⟩, ⟨by (with_reducible repeat (first | refine blk_drewN ?_ _ | refine blk_drew ?_ | refine blk_alloc ?_ _)); exact BK407.out⟩, ⟨by repeat (first | (with_reducible first | exact HB.out | apply below_alloc | apply pw_below_drewN | apply below_drew1 | refine below_set ?_ GE407.out) | exact HB.out)⟩⟩
                · replace c47 := Bool.eq_false_iff.mpr c47
                  subst c47
                  have H1 : (laws_FnExactLogRecords.j1 kj10 t425 t424 true) = some r := by rw [if_neg (show ¬ (false = true) by decide)] at H; exact H
                  clear H
                  have H := H1
                  clear H1
                  have H' := Aside0.mk H
                  clear H
                  obtain ⟨Ao51, co51, eo51⟩ := Kd.R_slice HO432.out
                  subst eo51
                  obtain ⟨Ao52, co52, eo52⟩ := Kd.R_slice HO_4.out
                  subst eo52
                  go_wp2_with (first | ((with_reducible refine gate_callee (f := 29) rfl ?_); refine goesL_ (some 57) rfl rfl Tryd.func29 (by kernel_rfl) rfl #[.slice Ao51 t430.length co51, .slice Ao52 t412.length co52] rfl (by (try simp only [List.map_toArray, List.map_cons, List.map_nil]); first | done | rfl | (simp only [List.length_drop, List.length_take]; rfl)) ?_; (with_reducible refine (laws_eqLogRecordS.calls kj10 _ _ t430 _ _ t412 false _ ?side1 ?side2 ?side3 ?side4 A46.out).mono ?_); (case side1 => repeat (first | exact (Kd.R_reads' HO432.out).2.2 | (with_reducible refine Kd.C_alloc ?_ _) | (with_reducible refine Kd.C_drewN ?_ _) | (with_reducible refine Kd.C_drew ?_))); (case side2 => exact (Kd.R_reads' HO432.out).2.1); (case side3 => repeat (first | exact (Kd.R_reads' HO_4.out).2.2 | (with_reducible refine Kd.C_alloc ?_ _) | (with_reducible refine Kd.C_drewN ?_ _) | (with_reducible refine Kd.C_drew ?_))); (case side4 => exact (Kd.R_reads' HO_4.out).2.1); rintro e w53 ⟨rfl, hb⟩; refine ⟨_, rfl, ?_⟩; have n0_ := Aside0.mk (Kd.R_below (by (with_reducible repeat (first | apply Kd.R_alloc | apply Kd.R_drewN | apply Kd.R_drew)); exact HO_4.out) hb); have n1_ := Aside0.mk (Kd.R_below (by (with_reducible repeat (first | apply Kd.R_alloc | apply Kd.R_drewN | apply Kd.R_drew)); exact HO_6.out) hb); have n2_ := Aside0.mk (Kd.R_below (by (with_reducible repeat (first | apply Kd.R_alloc | apply Kd.R_drewN | apply Kd.R_drew)); exact HO432.out) hb); have n3_ := Aside0.mk (blk_below (g := gb407) (o := .cells #[.string a0_0, .string a0_1, .int .i64 a0_2] 36 (0, 0)) (by (with_reducible repeat (first | refine blk_drewN ?_ _ | refine blk_drew ?_ | refine blk_alloc ?_ _)); exact BK407.out) hb); have n4_ := Aside0.mk (below_step (by repeat (first | (with_reducible first | exact HB.out | apply below_alloc | apply pw_below_drewN | apply below_drew1 | refine below_set ?_ GE407.out) | exact HB.out)) hb); clear HO_4; clear HO_6; clear HO432; clear BK407; clear HB; have HO_4 := n0_; have HO_6 := n1_; have HO432 := n2_; have BK407 := n3_; have HB := n4_; clear n0_ n1_ n2_ n3_ n4_; (try clear hb); (try clear hb2); (try clear hk); (try clear hi)))
                  go_meet
                  case rel => exact ⟨_, (true), (by first | rfl | (simp; done) | (simp [*]; done)), H', ⟨by have := HJ10.out; first | omega | exact Nat.le_refl _⟩, ⟨by (with_reducible repeat (first | apply Kd.R_alloc | apply Kd.R_drewN | apply Kd.R_drew)); exact Kd.R_mono HO_6.out (fun _ hk => trivial)⟩, ⟨by (with_reducible repeat (first | refine blk_drewN ?_ _ | refine blk_drew ?_ | refine blk_alloc ?_ _)); exact BK407.out⟩, ⟨by repeat (first | (with_reducible first | exact HB.out | apply below_alloc | apply pw_below_drewN | apply below_drew1 | refine below_set ?_ GE407.out) | exact HB.out)⟩⟩
              case rest =>
                clear HC39
                try clear c1
                try clear c2
                try clear p2
                try clear c3
                try clear c3b0
                try clear c4
                try clear c9
                try clear c17
                try clear c19
                try clear c22
                try clear c27
                try clear c28
                try clear c29
                try clear c30
                try clear c31
                try clear c32
                try clear c32b0
                try clear c36
                try clear c36b0
                try clear c36b1
                try clear c47
                try clear hcz13_0
                try clear hcz13_1
                try clear hcz13_2
                try clear hcz15_0
                try clear hcz15_1
                try clear hcz15_2
                try clear hcz18_0
                try clear hcz18_1
                try clear hcz18_2
                try clear hcz43_0
                try clear hcz43_1
                try clear hcz43_2
                try clear hcz5_0
                try clear hcz5_1
                try clear hcz5_2
                try clear hfz13_0
                try clear hfz13_1
                try clear hfz13_2
                try clear hfz15_0
                try clear hfz15_1
                try clear hfz15_2
                try clear hfz18_0
                try clear hfz18_1
                try clear hfz18_2
                try clear hfz43_0
                try clear hfz43_1
                try clear hfz43_2
                try clear hfz5_0
                try clear hfz5_1
                try clear hfz5_2
                try clear p2
                obtain ⟨kq, x63_38, rfl, HA, HJ38, HO_6, BK407, HB⟩ := hcut
                have hl6_38 := (Kd.R_reads' HO_6.out).1
                rw [hl6_38] at HO_6
                (try simp only [hl6_38])
                (try simp only [hl6_38] at BK407)
                cases kq with
                | zero => exact absurd HA.out (by simp [laws_FnExactLogRecords.j1])
                | succ kj38 =>
                  have H := HA.out
                  clear HA
                  simp only [laws_FnExactLogRecords.j1] at H
                  by_cases c54 : x63_38 = true
                  · subst c54
                    have H1 : (some false) = some r := by rw [if_pos rfl] at H; exact H
                    clear H
                    have H := H1
                    clear H1
                    obtain rfl := Option.some.inj H
                    go_wp2
                    go_ret
                    exact ⟨by first | rfl | (simp [errW_none, errW_some] <;> rfl) | (simp [*, errW_none, errW_some] <;> rfl), by repeat (first | (with_reducible first | exact HB.out | apply below_alloc | apply pw_below_drewN | apply below_drew1 | refine below_set ?_ GE407.out) | exact HB.out)⟩
                  · replace c54 := Bool.eq_false_iff.mpr c54
                    subst c54
                    have H1 : ((laws_heldLogRecordS.f kj38 t425 1).bind fun t435 => (if t435 < 0 then (some false) else (if t435 = t424 then (some true) else (some false)))) = some r := by rw [if_neg (show ¬ (false = true) by decide)] at H; exact H
                    clear H
                    have H := H1
                    clear H1
                    replace H := Option.bind_eq_some_iff.mp H
                    obtain ⟨t435, A550, H⟩ := H
                    replace H : (if t435 < 0 then (some false) else (if t435 = t424 then (some true) else (some false))) = some r := H
                    have A55 := Aside0.mk A550
                    clear A550
                    by_cases c56 : t435 < 0
                    · rw [if_pos c56] at H
                      have c56b0 : decide (t435 < 0) = true := decide_eq_true c56
                      clear c56
                      obtain rfl := Option.some.inj H
                      go_wp2_with (first | ((with_reducible refine gate_callee (f := 31) rfl ?_); refine goesL_ (some 66) rfl rfl Tryd.func31 (by kernel_rfl) rfl #[.slice Ao40 t425.length co40, .int .i64 1] rfl (by (try simp only [List.map_toArray, List.map_cons, List.map_nil]); first | done | rfl | (simp only [List.length_drop, List.length_take]; rfl)) ?_; (with_reducible refine (laws_heldLogRecordS.calls kj38 _ _ t425 1 t435 _ ?side1 ?side2 A55.out).mono ?_); (case side1 => repeat (first | exact (Kd.R_reads' HO_6.out).2.2 | (with_reducible refine Kd.C_alloc ?_ _) | (with_reducible refine Kd.C_drewN ?_ _) | (with_reducible refine Kd.C_drew ?_))); (case side2 => exact (Kd.R_reads' HO_6.out).2.1); rintro e w57 ⟨rfl, hb⟩; refine ⟨_, rfl, ?_⟩; have n0_ := Aside0.mk (Kd.R_below (by (with_reducible repeat (first | apply Kd.R_alloc | apply Kd.R_drewN | apply Kd.R_drew)); exact HO_6.out) hb); have n1_ := Aside0.mk (blk_below (g := gb407) (o := .cells #[.string a0_0, .string a0_1, .int .i64 a0_2] 36 (0, 0)) (by (with_reducible repeat (first | refine blk_drewN ?_ _ | refine blk_drew ?_ | refine blk_alloc ?_ _)); exact BK407.out) hb); have n2_ := Aside0.mk (below_step (by repeat (first | (with_reducible first | exact HB.out | apply below_alloc | apply pw_below_drewN | apply below_drew1 | refine below_set ?_ GE407.out) | exact HB.out)) hb); clear HO_6; clear BK407; clear HB; have HO_6 := n0_; have BK407 := n1_; have HB := n2_; clear n0_ n1_ n2_; (try clear hb); (try clear hb2); (try clear hk); (try clear hi)))
                      go_ret
                      exact ⟨by first | rfl | (simp [errW_none, errW_some] <;> rfl) | (simp [*, errW_none, errW_some] <;> rfl), by repeat (first | (with_reducible first | exact HB.out | apply below_alloc | apply pw_below_drewN | apply below_drew1 | refine below_set ?_ GE407.out) | exact HB.out)⟩
                    · rw [if_neg c56] at H
                      have c56b0 : decide (t435 < 0) = false := decide_eq_false c56
                      clear c56
                      by_cases c58 : t435 = t424
                      · rw [if_pos c58] at H
                        have c58b0 : (t435 == t424) = true := beq_iff_eq.mpr c58
                        have c58b1 : (t435 != t424) = false := bne_eq_false_iff_eq.mpr c58
                        clear c58
                        obtain rfl := Option.some.inj H
                        go_wp2_with (first | ((with_reducible refine gate_callee (f := 31) rfl ?_); refine goesL_ (some 66) rfl rfl Tryd.func31 (by kernel_rfl) rfl #[.slice Ao40 t425.length co40, .int .i64 1] rfl (by (try simp only [List.map_toArray, List.map_cons, List.map_nil]); first | done | rfl | (simp only [List.length_drop, List.length_take]; rfl)) ?_; (with_reducible refine (laws_heldLogRecordS.calls kj38 _ _ t425 1 t435 _ ?side1 ?side2 A55.out).mono ?_); (case side1 => repeat (first | exact (Kd.R_reads' HO_6.out).2.2 | (with_reducible refine Kd.C_alloc ?_ _) | (with_reducible refine Kd.C_drewN ?_ _) | (with_reducible refine Kd.C_drew ?_))); (case side2 => exact (Kd.R_reads' HO_6.out).2.1); rintro e w59 ⟨rfl, hb⟩; refine ⟨_, rfl, ?_⟩; have n0_ := Aside0.mk (Kd.R_below (by (with_reducible repeat (first | apply Kd.R_alloc | apply Kd.R_drewN | apply Kd.R_drew)); exact HO_6.out) hb); have n1_ := Aside0.mk (blk_below (g := gb407) (o := .cells #[.string a0_0, .string a0_1, .int .i64 a0_2] 36 (0, 0)) (by (with_reducible repeat (first | refine blk_drewN ?_ _ | refine blk_drew ?_ | refine blk_alloc ?_ _)); exact BK407.out) hb); have n2_ := Aside0.mk (below_step (by repeat (first | (with_reducible first | exact HB.out | apply below_alloc | apply pw_below_drewN | apply below_drew1 | refine below_set ?_ GE407.out) | exact HB.out)) hb); clear HO_6; clear BK407; clear HB; have HO_6 := n0_; have BK407 := n1_; have HB := n2_; clear n0_ n1_ n2_; (try clear hb); (try clear hb2); (try clear hk); (try clear hi)))
                        go_ret
                        exact ⟨by first | rfl | (simp [errW_none, errW_some] <;> rfl) | (simp [*, errW_none, errW_some] <;> rfl), by repeat (first | (with_reducible first | exact HB.out | apply below_alloc | apply pw_below_drewN | apply below_drew1 | refine below_set ?_ GE407.out) | exact HB.out)⟩
                      · rw [if_neg c58] at H
                        have c58b0 : (t435 == t424) = false := beq_eq_false_iff_ne.mpr c58
                        have c58b1 : (t435 != t424) = true := bne_iff_ne.mpr c58
                        obtain rfl := Option.some.inj H
                        go_wp2_with (first | ((with_reducible refine gate_callee (f := 31) rfl ?_); refine goesL_ (some 66) rfl rfl Tryd.func31 (by kernel_rfl) rfl #[.slice Ao40 t425.length co40, .int .i64 1] rfl (by (try simp only [List.map_toArray, List.map_cons, List.map_nil]); first | done | rfl | (simp only [List.length_drop, List.length_take]; rfl)) ?_; (with_reducible refine (laws_heldLogRecordS.calls kj38 _ _ t425 1 t435 _ ?side1 ?side2 A55.out).mono ?_); (case side1 => repeat (first | exact (Kd.R_reads' HO_6.out).2.2 | (with_reducible refine Kd.C_alloc ?_ _) | (with_reducible refine Kd.C_drewN ?_ _) | (with_reducible refine Kd.C_drew ?_))); (case side2 => exact (Kd.R_reads' HO_6.out).2.1); rintro e w60 ⟨rfl, hb⟩; refine ⟨_, rfl, ?_⟩; have n0_ := Aside0.mk (Kd.R_below (by (with_reducible repeat (first | apply Kd.R_alloc | apply Kd.R_drewN | apply Kd.R_drew)); exact HO_6.out) hb); have n1_ := Aside0.mk (blk_below (g := gb407) (o := .cells #[.string a0_0, .string a0_1, .int .i64 a0_2] 36 (0, 0)) (by (with_reducible repeat (first | refine blk_drewN ?_ _ | refine blk_drew ?_ | refine blk_alloc ?_ _)); exact BK407.out) hb); have n2_ := Aside0.mk (below_step (by repeat (first | (with_reducible first | exact HB.out | apply below_alloc | apply pw_below_drewN | apply below_drew1 | refine below_set ?_ GE407.out) | exact HB.out)) hb); clear HO_6; clear BK407; clear HB; have HO_6 := n0_; have BK407 := n1_; have HB := n2_; clear n0_ n1_ n2_; (try clear hb); (try clear hb2); (try clear hk); (try clear hi)))
                        go_ret
                        exact ⟨by first | rfl | (simp [errW_none, errW_some] <;> rfl) | (simp [*, errW_none, errW_some] <;> rfl), by repeat (first | (with_reducible first | exact HB.out | apply below_alloc | apply pw_below_drewN | apply below_drew1 | refine below_set ?_ GE407.out) | exact HB.out)⟩
            · rw [if_neg c36] at H
              have c36b0 : (t426 == t424) = false := beq_eq_false_iff_ne.mpr c36
              have c36b1 : (t426 != t424) = true := bne_iff_ne.mpr c36
              obtain rfl := Option.some.inj H
              obtain ⟨Ao61, co61, eo61⟩ := Kd.R_slice HO_6.out
              subst eo61
              go_wp2_with (first | ((with_reducible refine gate_callee (f := 30) rfl ?_); refine goesL_ (some 40) rfl rfl Tryd.func30 (by kernel_rfl) rfl #[.slice Ao61 t419.length co61, .int .i64 1] rfl (by (try simp only [List.map_toArray, List.map_cons, List.map_nil]); first | done | rfl | (simp only [List.length_drop, List.length_take]; rfl)) ?_; (with_reducible refine (laws_markLogRecordS.calls kj10 (fun k_ => some k_ = (.slice Ao61 t419.length co61 : Value).ownBlock) (.slice Ao61 t419.length co61) t419 1 t424 t425 w _ ?side1 ?side2 A30.out).mono ?_); (case side1 => repeat (first | (with_reducible first | exact HB.out | apply below_alloc | apply pw_below_drewN | apply below_drew1 | refine below_set ?_ GE407.out) | exact HB.out)); (case side2 => exact Kd.R_tight rfl HO_6.out); rintro e w62 ⟨rfl, hy0, hb, hkp⟩; refine ⟨_, rfl, ?_⟩; have n0_ := Aside0.mk (Kd.R_mono (ok' := fun k_ => some k_ ≠ (.slice Ao61 t419.length co61 : Value).ownBlock) (Kd.R_keptB (HO_4.out) hkp (fun k_ hk_ hs_ => (hk_) hs_)) (fun k_ hk_ => hk_.1)); have n1_ := Aside0.mk (Kd.R_reok rfl hy0 (fun k_ e_ => HO_6.out.1 k_ e_)); have n2_ := Aside0.mk (blk_kept (by (with_reducible repeat (first | refine blk_drewN ?_ _ | refine blk_drew ?_ | refine blk_alloc ?_ _)); exact BK407.out) hkp (fun hs_ => (fun e_ => (Kd.R_ne HO_6.out BK407.out (by decide)) e_) hs_)); have n3_ := Aside0.mk (hb); clear HO_4; clear HO_6; clear BK407; clear HB; have HO_4 := n0_; have HO_6 := n1_; have BK407 := n2_; have HB := n3_; clear n0_ n1_ n2_ n3_; (try clear hb); (try clear hkp); (try clear hy0)) | ((with_reducible refine gate_callee (f := 31) rfl ?_); refine goesL_ (some 43) rfl rfl Tryd.func31 (by kernel_rfl) rfl #[.slice Ao61 t425.length co61, .int .i64 1] rfl (by (try simp only [List.map_toArray, List.map_cons, List.map_nil]); first | done | (rw [show t425.length = t419.length from (Kd.R_reads' HO_6.out).1.symm] <;> rfl) | rfl | (simp only [List.length_drop, List.length_take]; rfl)) ?_; (with_reducible refine (laws_heldLogRecordS.calls kj10 _ _ t425 1 t426 _ ?side1 ?side2 A31.out).mono ?_); (case side1 => repeat (first | exact (Kd.R_reads' HO_6.out).2.2 | (with_reducible refine Kd.C_alloc ?_ _) | (with_reducible refine Kd.C_drewN ?_ _) | (with_reducible refine Kd.C_drew ?_))); (case side2 => rw [show t425.length = t419.length from (Kd.R_reads' HO_6.out).1.symm]; exact (Kd.R_reads' HO_6.out).2.1); rintro e w63 ⟨rfl, hb⟩; refine ⟨_, rfl, ?_⟩; have n0_ := Aside0.mk (Kd.R_below (by (with_reducible repeat (first | apply Kd.R_alloc | apply Kd.R_drewN | apply Kd.R_drew)); exact HO_4.out) hb); have n1_ := Aside0.mk (Kd.R_below (by (with_reducible repeat (first | apply Kd.R_alloc | apply Kd.R_drewN | apply Kd.R_drew)); exact HO_6.out) hb); have n2_ := Aside0.mk (blk_below (g := gb407) (o := .cells #[.string a0_0, .string a0_1, .int .i64 a0_2] 36 (0, 0)) (by (with_reducible repeat (first | refine blk_drewN ?_ _ | refine blk_drew ?_ | refine blk_alloc ?_ _)); exact BK407.out) hb); have n3_ := Aside0.mk (below_step (by repeat (first | (with_reducible first | exact HB.out | apply below_alloc | apply pw_below_drewN | apply below_drew1 | refine below_set ?_ GE407.out) | exact HB.out)) hb); clear HO_4; clear HO_6; clear BK407; clear HB; have HO_4 := n0_; have HO_6 := n1_; have BK407 := n2_; have HB := n3_; clear n0_ n1_ n2_ n3_; (try clear hb); (try clear hb2); (try clear hk); (try clear hi)))
              go_ret
              exact ⟨by first | rfl | (simp [errW_none, errW_some] <;> rfl) | (simp [*, errW_none, errW_some] <;> rfl), by repeat (first | (with_reducible first | exact HB.out | apply below_alloc | apply pw_below_drewN | apply below_drew1 | refine below_set ?_ GE407.out) | exact HB.out)⟩
end Go.Proofs.YtnjambhlblngcaaDoor.P
namespace Go.Proofs.YtnjambhlblngcaaDoor.P
open Go.RowKit Go.Proofs.YtnjambhlblngcaaDoorW.PrintWords Go.Proofs.YtnjambhlblngcaaDoorW.PrintLast Go.Proofs.YtnjambhlblngcaaDoorW.PrintMore
set_option linter.unusedVariables false

/-- From some number of rounds on, F tells r. -/
def Ter {α : Type} (F : Nat → Option α) (r : α) : Prop := ∃ K, ∀ k, K ≤ k → F k = some r

theorem Ter.const {α : Type} {o : Option α} {r : α} (h : o = some r) : Ter (fun _ => o) r := ⟨0, fun _ _ => h⟩

theorem Ter.ret {α : Type} (r : α) : Ter (fun _ => some r) r := ⟨0, fun _ _ => rfl⟩

theorem Ter.succ {α : Type} {F : Nat → Option α} {r : α} (h : Ter (fun k => F (k + 1)) r) : Ter F r := by
  obtain ⟨K, h⟩ := h
  refine ⟨K + 1, fun k hk => ?_⟩
  obtain ⟨j, rfl⟩ : ∃ j, k = j + 1 := ⟨k - 1, by omega⟩
  exact h j (by omega)

theorem Ter.bind {α β : Type} {F : Nat → Option α} {G : Nat → α → Option β} {a : α} {b : β} (h1 : Ter F a) (h2 : Ter (fun k => G k a) b) : Ter (fun k => (F k).bind (G k)) b := by
  obtain ⟨K1, h1⟩ := h1
  obtain ⟨K2, h2⟩ := h2
  refine ⟨K1 + K2, fun k hk => ?_⟩
  show (F k).bind (G k) = _
  rw [h1 k (by omega)]
  exact h2 k (by omega)

theorem Ter.ifp {α : Type} {c : Prop} [Decidable c] {F G : Nat → Option α} {r : α} (h : c) (h1 : Ter F r) : Ter (fun k => if c then F k else G k) r := by
  simp only [if_pos h]
  exact h1

theorem Ter.ifn {α : Type} {c : Prop} [Decidable c] {F G : Nat → Option α} {r : α} (h : ¬ c) (h1 : Ter G r) : Ter (fun k => if c then F k else G k) r := by
  simp only [if_neg h]
  exact h1

theorem Ter.congr {α : Type} {F G : Nat → Option α} {r : α} (h : ∀ k, F k = G k) (h1 : Ter G r) : Ter F r := by
  obtain ⟨K, h1⟩ := h1
  exact ⟨K, fun k hk => (h k).trans (h1 k hk)⟩

theorem Ter.eq {α : Type} {F : Nat → Option α} {r s : α} (h : Ter F r) (e : r = s) : Ter F s := e ▸ h

theorem Ter.at {α : Type} {F : Nat → Option α} {r : α} (h : Ter F r) : ∃ K, ∀ k, K ≤ k → F k = some r := h

/-- Down from the last index. -/
theorem down_ {Q : Nat → Prop} (n : Nat) (fin : Q n) (step : ∀ i, i < n → Q (i + 1) → Q i) : ∀ i, i ≤ n → Q i := by
  have h : ∀ j i, i + j = n → Q i := by
    intro j
    induction j with
    | zero => intro i h; have : i = n := by omega
              exact this ▸ fin
    | succ j ih => intro i h; exact step i (by omega) (ih (i + 1) (by omega))
  intro i hi
  exact h (n - i) i (by omega)

theorem w64 {n : Int} (h0 : -9223372036854775808 ≤ n) (h1 : n ≤ 9223372036854775807) : wrap64 n = n := by unfold wrap64; omega

theorem w64s {i n : Nat} (h : i < n) (hn : n ≤ 9223372036854775807) : wrap64 ((i : Int) + 1) = ((i + 1 : Nat) : Int) := by
  rw [w64 (by omega) (by omega)]
  omega

theorem maxLen_ : maxLen = 9223372036854775807 := rfl

theorem getD_at {α : Type} {xs : List α} {d : α} {i : Nat} (h : i < xs.length) : xs.getD ((i : Int)).toNat d = xs[i] := by
  rw [Int.toNat_natCast, List.getD_eq_getElem?_getD, List.getElem?_eq_getElem h]
  rfl

theorem rd_at {xs : List Int} {i : Nat} (h : i < xs.length) : rd xs (i : Int) = xs[i] := getD_at h

theorem take_one {α : Type} {xs : List α} {i : Nat} (h : i < xs.length) : xs.take i ++ [xs[i]] = xs.take (i + 1) := by
  rw [List.take_add_one, List.getElem?_eq_getElem h]
  rfl
end Go.Proofs.YtnjambhlblngcaaDoor.P
namespace Go.Proofs.YtnjambhlblngcaaDoor.P
set_option linter.unusedVariables false
set_option linter.unusedSimpArgs false

abbrev Bs := List UInt8

/-- What stands ahead of the first b, and behind it. -/
def ahead (b : UInt8) (s : Bs) : Bs := s.takeWhile (· != b)

def behind (b : UInt8) (s : Bs) : Bs := (s.dropWhile (· != b)).drop 1

theorem ahead_app {b : UInt8} : ∀ {a : Bs} (r : Bs), b ∉ a → ahead b (a ++ b :: r) = a
  | [], r, _ => by simp [ahead]
  | x :: a, r, h => by
    have h1 : x ≠ b := fun e => h (by simp [e])
    have h2 : b ∉ a := fun e => h (by simp [e])
    have := ahead_app r h2
    unfold ahead at this ⊢
    rw [List.cons_append, List.takeWhile_cons, if_pos (by simpa using h1), this]

theorem ahead_none {b : UInt8} : ∀ {a : Bs}, b ∉ a → ahead b a = a
  | [], _ => rfl
  | x :: a, h => by
    have h1 : x ≠ b := fun e => h (by simp [e])
    have h2 : b ∉ a := fun e => h (by simp [e])
    have := ahead_none h2
    unfold ahead at this ⊢
    rw [List.takeWhile_cons, if_pos (by simpa using h1), this]

theorem not_ahead {b : UInt8} : ∀ (s : Bs), b ∉ ahead b s
  | [] => by simp [ahead]
  | x :: s => by
    have := not_ahead (b := b) s
    unfold ahead at this ⊢
    rw [List.takeWhile_cons]
    by_cases h : x = b
    · rw [if_neg (by simp [h])]; simp
    · rw [if_pos (by simpa using h)]
      simp only [List.mem_cons, not_or]
      exact ⟨fun e => h e.symm, this⟩

theorem split_at {b : UInt8} : ∀ {s : Bs}, b ∈ s → s = ahead b s ++ b :: behind b s
  | [], h => by simp at h
  | x :: s, h => by
    by_cases e : x = b
    · subst e; simp [ahead, behind]
    · have := split_at (b := b) (s := s) (by rcases List.mem_cons.1 h with h | h; exact absurd h.symm e; exact h)
      unfold ahead behind at this ⊢
      rw [List.takeWhile_cons, List.dropWhile_cons, if_pos (by simpa using e), if_pos (by simpa using e), List.cons_append, ← this]

theorem index_one {b : UInt8} : ∀ {a : Bs} (r : Bs), b ∉ a → Lib.index (a ++ b :: r) [b] = a.length
  | [], r, _ => by simp [Lib.index]
  | x :: a, r, h => by
    have h1 : b ≠ x := fun e => h (by simp [e])
    have := index_one r (fun e => h (by simp [e]) : b ∉ a)
    rw [List.cons_append, Lib.index, if_neg (by simpa using h1), this, if_neg (by rw [beq_iff_eq]; omega)]
    rfl

theorem index_not {b : UInt8} : ∀ {a : Bs}, b ∉ a → Lib.index a [b] = -1
  | [], _ => rfl
  | x :: a, h => by
    have h1 : b ≠ x := fun e => h (by simp [e])
    rw [Lib.index, if_neg (by simpa using h1), index_not (fun e => h (by simp [e]) : b ∉ a)]
    rfl

theorem cut_app {b : UInt8} {a : Bs} (r : Bs) (h : b ∉ a) : Lib.cut (a ++ b :: r) [b] = (a, r, true) := by
  unfold Lib.cut
  rw [index_one r h, if_pos (by omega)]
  simp

theorem cut_not {b : UInt8} {a : Bs} (h : b ∉ a) : Lib.cut a [b] = (a, [], false) := by
  unfold Lib.cut
  rw [index_not h]
  rfl

theorem decDigits_digit (n : Nat) : ∀ x ∈ Lib.decDigits n, 48 ≤ x.toNat ∧ x.toNat ≤ 57 := by
  induction n using Nat.strongRecOn with
  | _ n ih =>
    intro x hx
    rw [Lib.decDigits] at hx
    have key : ∀ m : Nat, m < 10 → 48 ≤ (UInt8.ofNat (48 + m)).toNat ∧ (UInt8.ofNat (48 + m)).toNat ≤ 57 := by
      intro m hm
      rw [UInt8.toNat_ofNat']
      omega
    split at hx
    · simp only [List.mem_singleton] at hx
      subst hx
      exact key n (by assumption)
    · rw [List.mem_append] at hx
      rcases hx with hx | hx
      · exact ih (n / 10) (by omega) x hx
      · simp only [List.mem_singleton] at hx
        subst hx
        exact key _ (by omega)

theorem itoa_digit {n : Int} (h : 0 ≤ n) : ∀ x ∈ Lib.itoa n, 48 ≤ x.toNat ∧ x.toNat ≤ 57 := by
  unfold Lib.itoa
  rw [if_neg (by omega)]
  exact decDigits_digit _

theorem decDigits_len : ∀ (j n : Nat), n < 10 ^ (j + 1) → (Lib.decDigits n).length ≤ j + 1
  | 0, n, h => by rw [Lib.decDigits, dif_pos (by simpa using h)]; simp
  | j + 1, n, h => by
    rw [Lib.decDigits]
    split
    · simp
    · have := decDigits_len j (n / 10) (by rw [Nat.pow_succ] at h; omega)
      simp
      exact this

theorem itoa_len {n : Int} (h : 0 ≤ n) (j : Nat) (h2 : n < (10 ^ (j + 1) : Nat)) : (Lib.itoa n).length ≤ j + 1 := by
  unfold Lib.itoa
  rw [if_neg (by omega)]
  exact decDigits_len j _ (by omega)

theorem not_digit {n : Int} (h : 0 ≤ n) (b : UInt8) (hb : b.toNat < 48 ∨ 57 < b.toNat) : b ∉ Lib.itoa n := fun hm => by
  have := itoa_digit h b hm
  omega

def plainB (m : Nat) (s : Bs) : Bool := s.all (fun x => decide (32 ≤ x.toNat) && decide (x.toNat ≤ 126) && x != 35) && decide (s.length ≤ m)

def okRec (c r : Bs) : Bool := !c.isEmpty && plainB 160 c && !c.contains 64 && plainB 260 r

def sumL : Int → Bs → Int
  | h, [] => h
  | h, x :: l => sumL ((41 * h + (x.toNat : Int) + 1) % 999979) l

theorem sumL_range : ∀ (s : Bs) (h : Int), 0 ≤ h → h < 999979 → 0 ≤ sumL h s ∧ sumL h s < 999979
  | [], h, h0, h1 => ⟨h0, h1⟩
  | x :: l, h, h0, h1 => by
    unfold sumL
    exact sumL_range l _ (by omega) (by omega)

def sealB (s : Bs) : Bs := s ++ 35 :: Lib.itoa (sumL 7 s)

def bodyB (k : Int) (c r : Bs) : Bs := Lib.itoa k ++ 32 :: (c ++ 64 :: r)

def lineB (k : Int) (c r : Bs) : Bs := sealB (bodyB k c r) ++ [10]

theorem plainB_mem {m : Nat} {s : Bs} (h : plainB m s = true) : ∀ x ∈ s, 32 ≤ x.toNat ∧ x.toNat ≤ 126 ∧ x ≠ 35 := by
  intro x hx
  unfold plainB at h
  simp only [Bool.and_eq_true, List.all_eq_true, decide_eq_true_eq, bne_iff_ne, ne_eq] at h
  exact ⟨(h.1 x hx).1.1, (h.1 x hx).1.2, (h.1 x hx).2⟩

theorem plainB_len {m : Nat} {s : Bs} (h : plainB m s = true) : s.length ≤ m := by
  unfold plainB at h
  simp only [Bool.and_eq_true, decide_eq_true_eq] at h
  exact h.2

structure Ok (c r : Bs) : Prop where
  ne : c ≠ []
  c1 : ∀ x ∈ c, 32 ≤ x.toNat ∧ x.toNat ≤ 126 ∧ x ≠ 35
  r1 : ∀ x ∈ r, 32 ≤ x.toNat ∧ x.toNat ≤ 126 ∧ x ≠ 35
  cl : c.length ≤ 160
  rl : r.length ≤ 260
  at_ : (64 : UInt8) ∉ c

theorem okRec_ok {c r : Bs} (h : okRec c r = true) : Ok c r := by
  unfold okRec at h
  simp only [Bool.and_eq_true, Bool.not_eq_true', List.isEmpty_eq_false_iff, List.contains_eq_mem, decide_eq_false_iff_not] at h
  exact ⟨h.1.1.1, plainB_mem h.1.1.2, plainB_mem h.2, plainB_len h.1.1.2, plainB_len h.2, h.1.2⟩

theorem body_hash {k : Int} (hk : 0 ≤ k) {c r : Bs} (h : Ok c r) : (35 : UInt8) ∉ bodyB k c r := by
  unfold bodyB
  simp only [List.mem_append, List.mem_cons, not_or]
  exact ⟨not_digit hk _ (by decide), by decide, fun e => (h.c1 _ e).2.2 rfl, by decide, fun e => (h.r1 _ e).2.2 rfl⟩

theorem body_nl {k : Int} (hk : 0 ≤ k) {c r : Bs} (h : Ok c r) : (10 : UInt8) ∉ bodyB k c r := by
  unfold bodyB
  simp only [List.mem_append, List.mem_cons, not_or]
  exact ⟨not_digit hk _ (by decide), by decide, fun e => by have := (h.c1 _ e).1; revert this; decide, by decide, fun e => by have := (h.r1 _ e).1; revert this; decide⟩

theorem seal_nl {s : Bs} (h : (10 : UInt8) ∉ s) : (10 : UInt8) ∉ sealB s := by
  unfold sealB
  simp only [List.mem_append, List.mem_cons, not_or]
  exact ⟨h, by decide, not_digit (sumL_range s 7 (by omega) (by omega)).1 _ (by decide)⟩

theorem body_len {k : Int} (hk : 0 ≤ k) (hk2 : k < 100) {c r : Bs} (h : Ok c r) : (bodyB k c r).length ≤ 424 := by
  have h1 := itoa_len hk 1 (by omega)
  have h2 := h.cl
  have h3 := h.rl
  unfold bodyB
  simp only [List.length_append, List.length_cons]
  omega

theorem seal_len (s : Bs) : (sealB s).length ≤ s.length + 7 := by
  have h1 := itoa_len (sumL_range s 7 (by omega) (by omega)).1 5 (by have := (sumL_range s 7 (by omega) (by omega)).2; omega)
  unfold sealB
  simp only [List.length_append, List.length_cons]
  omega

theorem line_pos (k : Int) (c r : Bs) : 0 < (lineB k c r).length := by unfold lineB; simp

def verB (s : Bs) : Bs := if sealB (Lib.cut s [35]).1 = s ∧ s.length ≤ 4000 then (Lib.cut s [35]).1 else []

def one (k : Int) (t : Bs) : Option (Bs × Bs) :=
  if (Lib.cut t [10]).2.2 = true then
    let x := (Lib.cut (verB (Lib.cut t [10]).1) [32]).2.1
    let c := (Lib.cut x [64]).1
    let r := (Lib.cut x [64]).2.1
    if okRec c r = true ∧ lineB k c r = (Lib.cut t [10]).1 ++ [10] then some (c, r) else none
  else none

theorem cut_prefix {t : Bs} {b : UInt8} (h : (Lib.cut t [b]).2.2 = true) : (Lib.cut t [b]).1 ++ [b] <+: t := by
  by_cases hm : b ∈ t
  · have e := split_at hm
    rw [e, cut_app _ (not_ahead t)]
    exact ⟨behind b t, by simp⟩
  · rw [cut_not hm] at h
    cases h

theorem one_starts {k : Int} {t c r : Bs} (h : one k t = some (c, r)) : okRec c r = true ∧ lineB k c r <+: t := by
  unfold one at h
  simp only [] at h
  split at h
  · rename_i hw
    split at h
    · rename_i hh
      simp only [Option.some.injEq, Prod.mk.injEq] at h
      obtain ⟨rfl, rfl⟩ := h
      exact ⟨hh.1, by rw [hh.2]; exact cut_prefix hw⟩
    · cases h
  · cases h

theorem line_cut {k : Int} (hk : 0 ≤ k) {c r : Bs} (h : Ok c r) (q : Bs) : Lib.cut (lineB k c r ++ q) [10] = (sealB (bodyB k c r), q, true) := by
  unfold lineB
  rw [List.append_assoc]
  exact cut_app q (seal_nl (body_nl hk h))

theorem one_of {k : Int} (hk : 0 ≤ k) (hk2 : k < 100) {t c r : Bs} (h : okRec c r = true) (hp : lineB k c r <+: t) : one k t = some (c, r) := by
  have ho := okRec_ok h
  obtain ⟨q, rfl⟩ := hp
  unfold one
  have e1 := line_cut hk ho q
  have e2 : Lib.cut (sealB (bodyB k c r)) [35] = (bodyB k c r, Lib.itoa (sumL 7 (bodyB k c r)), true) := cut_app _ (body_hash hk ho)
  have e3 : verB (sealB (bodyB k c r)) = bodyB k c r := by
    have h1 := seal_len (bodyB k c r)
    have h2 := body_len hk hk2 ho
    unfold verB
    rw [e2, if_pos ⟨rfl, by omega⟩]
  have e4 : Lib.cut (bodyB k c r) [32] = (Lib.itoa k, c ++ 64 :: r, true) := cut_app _ (not_digit hk _ (by decide))
  have e5 : Lib.cut (c ++ 64 :: r) [64] = (c, r, true) := cut_app _ ho.at_
  simp only [e1, e3, e4, e5, if_true]
  rw [if_pos ⟨h, rfl⟩]

def dec (s : Bs) (k : Int) : Option (Bs × Bs) :=
  let hd := Lib.itoa k ++ [32]
  let text := ahead 35 s
  if text.length < hd.length ∨ text.take hd.length ≠ hd then none
  else
    let rest := text.drop hd.length
    let ask := ahead 64 rest
    if ask.length = rest.length then none
    else if okRec ask (rest.drop (ask.length + 1)) = true ∧ lineB k ask (rest.drop (ask.length + 1)) = s ++ [10] then some (ask, rest.drop (ask.length + 1)) else none

def one' (k : Int) (t : Bs) : Option (Bs × Bs) := if 10 ∈ t then dec (ahead 10 t) k else none

theorem one'_starts {k : Int} {t c r : Bs} (h : one' k t = some (c, r)) : okRec c r = true ∧ lineB k c r <+: t := by
  unfold one' at h
  split at h
  · rename_i hm
    unfold dec at h
    simp only [] at h
    split at h
    · cases h
    · split at h
      · cases h
      · split at h
        · rename_i hh
          simp only [Option.some.injEq, Prod.mk.injEq] at h
          obtain ⟨h1, h2⟩ := h
          rw [h2, h1] at hh
          refine ⟨hh.1, ?_⟩
          rw [hh.2]
          exact ⟨behind 10 t, by rw [List.append_assoc]; exact (split_at hm).symm⟩
        · cases h
  · cases h

theorem one'_of {k : Int} (hk : 0 ≤ k) {t c r : Bs} (h : okRec c r = true) (hp : lineB k c r <+: t) : one' k t = some (c, r) := by
  have ho := okRec_ok h
  obtain ⟨q, rfl⟩ := hp
  have hm : (10 : UInt8) ∈ lineB k c r ++ q := by unfold lineB; simp
  have e1 : ahead 10 (lineB k c r ++ q) = sealB (bodyB k c r) := by
    unfold lineB
    rw [List.append_assoc]
    exact ahead_app q (seal_nl (body_nl hk ho))
  have e2 : ahead 35 (sealB (bodyB k c r)) = bodyB k c r := ahead_app _ (body_hash hk ho)
  have e3 : bodyB k c r = (Lib.itoa k ++ [32]) ++ (c ++ 64 :: r) := by unfold bodyB; simp
  have e4 : ahead 64 (c ++ 64 :: r) = c := ahead_app _ ho.at_
  unfold one'
  rw [if_pos hm, e1]
  unfold dec
  simp only [e2]
  rw [if_neg (by rw [e3, List.take_left]; simp)]
  have e5 : (bodyB k c r).drop (Lib.itoa k ++ [32]).length = c ++ 64 :: r := by rw [e3, List.drop_left]
  rw [e5, e4]
  have e6 : (c ++ 64 :: r).drop (c.length + 1) = r := by
    rw [show c ++ 64 :: r = (c ++ [64]) ++ r by simp, show c.length + 1 = (c ++ [64]).length by simp, List.drop_left]
  rw [if_neg (by simp), e6, if_pos ⟨h, rfl⟩]

theorem one'_eq {k : Int} (hk : 0 ≤ k) (hk2 : k < 100) (t : Bs) : one' k t = one k t := by
  apply Option.ext
  rintro ⟨c, r⟩
  constructor
  · intro h; exact one_of hk hk2 (one'_starts h).1 (one'_starts h).2
  · intro h; exact one'_of hk (one_starts h).1 (one_starts h).2

def recs : Nat → Int → Bs → List (Bs × Bs)
  | 0, _, _ => []
  | n + 1, k, t => match one k t with
    | none => []
    | some (c, r) => (c, r) :: recs n (k + 1) (t.drop (lineB k c r).length)

def lenR : Int → List (Bs × Bs) → Nat
  | _, [] => 0
  | k, e :: l => (lineB k e.1 e.2).length + lenR (k + 1) l

def endsR : Nat → Int → List (Bs × Bs) → List Nat
  | a, _, [] => [a]
  | a, k, e :: l => a :: endsR (a + (lineB k e.1 e.2).length) (k + 1) l

theorem recs_len : ∀ (n : Nat) (k : Int) (t : Bs), (recs n k t).length ≤ n
  | 0, _, _ => Nat.le_refl _
  | n + 1, k, t => by
    unfold recs
    split
    · simp
    · have := recs_len n
      simp
      exact this _ _

theorem endsR_last : ∀ (l : List (Bs × Bs)) (a : Nat) (k : Int), (endsR a k l)[l.length]? = some (a + lenR k l)
  | [], a, k => by simp [endsR, lenR]
  | e :: l, a, k => by
    have := endsR_last l (a + (lineB k e.1 e.2).length) (k + 1)
    simp only [endsR, lenR, List.length_cons, List.getElem?_cons_succ]
    rw [this, Nat.add_assoc]

theorem endsR_len : ∀ (l : List (Bs × Bs)) (a : Nat) (k : Int), (endsR a k l).length = l.length + 1
  | [], a, k => rfl
  | e :: l, a, k => by simp [endsR, endsR_len l]

theorem endsR_ge : ∀ (l : List (Bs × Bs)) (a : Nat) (k : Int), ∀ x ∈ endsR a k l, a ≤ x
  | [], a, k, x, hx => by simp [endsR] at hx; omega
  | e :: l, a, k, x, hx => by
    simp only [endsR, List.mem_cons] at hx
    rcases hx with rfl | hx
    · exact Nat.le_refl _
    · have := endsR_ge l _ _ x hx
      omega

theorem one_nil {k : Int} (hk : 0 ≤ k) : one k [] = none := by
  cases h : one k [] with
  | none => rfl
  | some p =>
    have h1 := (one_starts (c := p.1) (r := p.2) h).2.length_le
    have h2 := line_pos k p.1 p.2
    simp only [List.length_nil] at h1
    omega

theorem ends_iff : ∀ (n : Nat) (k : Int) (a : Nat) (D P : Bs), 0 ≤ k → k + n ≤ 60 → ((a + D.length) ∈ endsR a k (recs n k (D ++ P)) ↔ lenR k (recs n k D) = D.length)
  | 0, k, a, D, P, hk, hk2 => by simp only [recs, endsR, lenR, List.mem_singleton]; omega
  | n + 1, k, a, D, P, hk, hk2 => by
    have hk3 : k < 100 := by omega
    cases h1 : one k (D ++ P) with
    | none =>
      have h2 : one k D = none := by
        cases h2 : one k D with
        | none => rfl
        | some p =>
          have hs := one_starts (c := p.1) (r := p.2) h2
          rw [one_of hk hk3 hs.1 (hs.2.trans (List.prefix_append D P))] at h1
          cases h1
      simp only [recs, h1, h2, endsR, lenR, List.mem_singleton]
      omega
    | some p =>
      obtain ⟨c, r⟩ := p
      have hs := one_starts h1
      have hpos := line_pos k c r
      by_cases hle : (lineB k c r).length ≤ D.length
      · have hp : lineB k c r <+: D := List.prefix_of_prefix_length_le hs.2 (List.prefix_append D P) hle
        have h2 := one_of hk hk3 hs.1 hp
        have ih := ends_iff n (k + 1) (a + (lineB k c r).length) (D.drop (lineB k c r).length) P (by omega) (by omega)
        rw [← List.drop_append_of_le_length hle] at ih
        simp only [recs, h1, h2, endsR, lenR, List.mem_cons]
        rw [show a + (lineB k c r).length + (D.drop (lineB k c r).length).length = a + D.length by simp; omega] at ih
        constructor
        · rintro (h | h)
          · omega
          · have := ih.1 h
            simp at this
            omega
        · intro h
          exact .inr (ih.2 (by simp; omega))
      · have h2 : one k D = none := by
          cases h2 : one k D with
          | none => rfl
          | some p =>
            have hs2 := one_starts (c := p.1) (r := p.2) h2
            rw [one_of hk hk3 hs2.1 (hs2.2.trans (List.prefix_append D P))] at h1
            obtain ⟨rfl, rfl⟩ := Prod.mk.inj (Option.some.inj h1)
            exact absurd hs2.2.length_le hle
        simp only [recs, h1, h2, endsR, lenR, List.mem_cons]
        constructor
        · rintro (h | h)
          · omega
          · have := endsR_ge _ _ _ _ h
            omega
        · intro h
          exact .inl (by omega)
end Go.Proofs.YtnjambhlblngcaaDoor.P
namespace Go.Proofs.YtnjambhlblngcaaDoor.P
open Go.RowKit Go.Proofs.YtnjambhlblngcaaDoorW.PrintWords Go.Proofs.YtnjambhlblngcaaDoorW.PrintLast Go.Proofs.YtnjambhlblngcaaDoorW.PrintMore
set_option linter.unusedVariables false
set_option linter.unusedSimpArgs false

/-- A list of bytes as a text. -/
def bs (l : Bs) : ByteArray := ⟨l.toArray⟩

theorem bs_of (s : ByteArray) : s = bs s.data.toList := by
  obtain ⟨⟨l⟩⟩ := s
  rfl

theorem bs_list (l : Bs) : (bs l).data.toList = l := rfl

theorem bs_size (l : Bs) : (bs l).size = l.length := rfl

theorem bs_app (a b : Bs) : bs a ++ bs b = bs (a ++ b) := by
  apply ByteArray.ext
  rw [ByteArray.data_append]
  show a.toArray ++ b.toArray = (a ++ b).toArray
  simp

theorem bs_cut (l : Bs) (i j : Nat) : (bs l).extract i j = bs ((l.take j).drop i) := by
  apply ByteArray.ext
  rw [ByteArray.data_extract]
  show l.toArray.extract i j = ((l.take j).drop i).toArray
  simp [List.extract_eq_drop_take']

theorem bs_from (l : Bs) (i : Nat) : (bs l).extract i l.length = bs (l.drop i) := by rw [bs_cut, List.take_length]

theorem bs_upto (l : Bs) (j : Nat) : (bs l).extract 0 j = bs (l.take j) := by rw [bs_cut]; rfl

theorem toList_loop (s : ByteArray) : ∀ (n i : Nat) (r : Bs), s.size - i = n → ByteArray.toList.loop s i r = r.reverse ++ s.data.toList.drop i
  | 0, i, r, h => by
    rw [ByteArray.toList.loop, if_neg (by omega), List.drop_eq_nil_of_le (by rw [Array.length_toList, ByteArray.size_data]; omega), List.append_nil]
  | n + 1, i, r, h => by
    have hi : i < s.data.toList.length := by rw [Array.length_toList, ByteArray.size_data]; omega
    rw [ByteArray.toList.loop, if_pos (by omega), toList_loop s n (i + 1) _ (by omega), List.reverse_cons, List.append_assoc, List.drop_eq_getElem_cons hi]
    have hi2 : i < s.data.size := by rw [ByteArray.size_data]; omega
    have : s.get! i = s.data.toList[i] := by
      rw [Array.getElem_toList]
      show s.data[i]! = _
      rw [getElem!_pos s.data i hi2]
    rw [this]
    rfl

theorem toList_is (s : ByteArray) : s.toList = s.data.toList := by
  unfold ByteArray.toList
  rw [toList_loop s s.size 0 [] (by omega)]
  rfl

theorem bs_toList (l : Bs) : (bs l).toList = l := by rw [toList_is]; rfl

theorem bs_bt {l : Bs} {i : Nat} (h : i < l.length) : bt (bs l) (i : Int) = (l[i].toNat : Int) := by
  unfold bt
  rw [dif_pos (by rw [Int.toNat_natCast, bs_size]; exact h)]
  rfl

theorem lit0 : (⟨#[]⟩ : ByteArray) = bs [] := rfl

theorem lit1 (b : UInt8) : (⟨#[b]⟩ : ByteArray) = bs [b] := rfl

theorem lit2 (b c : UInt8) : (⟨#[b, c]⟩ : ByteArray) = bs [b, c] := rfl

theorem byte_eq {a b : UInt8} (h : (a.toNat : Int) = (b.toNat : Int)) : a = b := UInt8.toNat_inj.1 (Int.ofNat.inj h)

theorem byte_lt (a : UInt8) : a.toNat < 256 := UInt8.toNat_lt a
end Go.Proofs.YtnjambhlblngcaaDoor.P
namespace Go.Proofs.YtnjambhlblngcaaDoor.P
open Go.RowKit Go.Proofs.YtnjambhlblngcaaDoorW.PrintWords Go.Proofs.YtnjambhlblngcaaDoorW.PrintLast Go.Proofs.YtnjambhlblngcaaDoorW.PrintMore
set_option linter.unusedVariables false
set_option linter.unusedSimpArgs false

theorem Ter.if_eq {α : Type} {c : Prop} [Decidable c] {F G : Nat → Option α} {r : α} (h1 : c → Ter F r) (h2 : ¬ c → Ter G r) : Ter (fun k => if c then F k else G k) r := by
  by_cases h : c
  · exact Ter.ifp h (h1 h)
  · exact Ter.ifn h (h2 h)

theorem in_is (a b c : Int) : spec_l1In.f a b c = some (decide (b ≤ a) && decide (a ≤ c)) := by
  unfold spec_l1In.f
  by_cases h1 : b ≤ a <;> by_cases h2 : a ≤ c <;> simp [h1, h2] <;> omega

theorem within_is (a b c : Int) : impl_within.f a b c = some (decide (b ≤ a) && decide (a ≤ c)) := by
  unfold impl_within.f
  by_cases h1 : b ≤ a <;> by_cases h2 : a ≤ c <;> simp [h1, h2] <;> omega

theorem drop_at {l : Bs} {i : Nat} (h : i < l.length) : l.drop i = l[i] :: l.drop (i + 1) := List.drop_eq_getElem_cons h

theorem tmod_is {a b : Int} (h : 0 ≤ a) : Int.tmod a b = a % b := Int.tmod_eq_emod_of_nonneg h

theorem sum_step {h : Int} {x : UInt8} (h0 : 0 ≤ h) (h1 : h < 999979) : Int.tmod (wrap64 ((wrap64 ((wrap64 (41 * h)) + (wrap64 (x.toNat : Int)))) + 1)) 999979 = (41 * h + (x.toNat : Int) + 1) % 999979 := by
  have hx := byte_lt x
  rw [w64 (n := 41 * h) (by omega) (by omega), w64 (n := (x.toNat : Int)) (by omega) (by omega), w64 (n := 41 * h + (x.toNat : Int)) (by omega) (by omega), w64 (by omega) (by omega), tmod_is (by omega)]

theorem checksum_is {l : Bs} (hl : l.length ≤ 1152921504606846976) : Ter (fun k => impl_checksum.f k (bs l)) (sumL 7 l) := by
  unfold impl_checksum.f
  rw [bs_size]
  have key := down_ (Q := fun i => ∀ h : Int, 0 ≤ h → h < 999979 → Ter (fun k => impl_checksum.l0 k (bs l) h (l.length : Int) (i : Int)) (sumL h (l.drop i))) l.length
    (fun h _ _ => Ter.succ (by simp only [impl_checksum.l0]; refine Ter.ifn (by omega) ((Ter.ret _).eq ?_); rw [List.drop_length]; rfl))
    (fun i hi ih h h0 h1 => by
      refine Ter.succ ?_
      simp only [impl_checksum.l0]
      refine Ter.ifp (by omega) (Ter.ifp (by omega) (Ter.ifp (by rw [bs_size]; omega) ?_))
      rw [bs_bt hi, w64s hi (by omega), sum_step h0 h1, drop_at hi]
      exact ih _ (by omega) (by omega)) 0 (by omega)
  exact key 7 (by omega) (by omega)

theorem l1Sum_is {l : Bs} (hl : l.length ≤ 1152921504606846976) : Ter (fun k => spec_l1Sum.f k (bs l)) (sumL 7 l) := by
  unfold spec_l1Sum.f
  have key := down_ (Q := fun i => ∀ h : Int, 0 ≤ h → h < 999979 → Ter (fun k => spec_l1Sum.l0 k (bs l) h (i : Int)) (sumL h (l.drop i))) l.length
    (fun h _ _ => Ter.succ (by simp only [spec_l1Sum.l0]; refine Ter.ifn (by rw [bs_size]; omega) ((Ter.ret _).eq ?_); rw [List.drop_length]; rfl))
    (fun i hi ih h h0 h1 => by
      refine Ter.succ ?_
      simp only [spec_l1Sum.l0]
      refine Ter.ifp (by rw [bs_size]; omega) (Ter.ifp (by omega) ?_)
      rw [bs_bt hi, w64s hi (by omega), sum_step h0 h1, drop_at hi]
      exact ih _ (by omega) (by omega)) 0 (by omega)
  exact key 7 (by omega) (by omega)

theorem digit_cut : ∀ m : Nat, m < 10 → (⟨#[48, 49, 50, 51, 52, 53, 54, 55, 56, 57]⟩ : ByteArray).extract m (m + 1) = bs [UInt8.ofNat (48 + m)] := by
  intro m hm
  rw [show (⟨#[48, 49, 50, 51, 52, 53, 54, 55, 56, 57]⟩ : ByteArray) = bs [48, 49, 50, 51, 52, 53, 54, 55, 56, 57] from rfl, bs_cut]
  congr 1
  have : ∀ m : Fin 10, (([48, 49, 50, 51, 52, 53, 54, 55, 56, 57] : Bs).take (m.val + 1)).drop m.val = [UInt8.ofNat (48 + m.val)] := by decide
  exact this ⟨m, hm⟩

theorem itoa_small {n : Nat} (h : n < 10) : Lib.itoa (n : Int) = [UInt8.ofNat (48 + n)] := by
  unfold Lib.itoa
  rw [if_neg (by omega), Int.toNat_natCast, Lib.decDigits, dif_pos h]

theorem itoa_big {n : Nat} (h : ¬ n < 10) : Lib.itoa (n : Int) = Lib.itoa ((n / 10 : Nat) : Int) ++ [UInt8.ofNat (48 + n % 10)] := by
  unfold Lib.itoa
  rw [if_neg (by omega), if_neg (by omega), Int.toNat_natCast, Int.toNat_natCast, Lib.decDigits, dif_neg h]

theorem l1Num_is (n : Nat) (hn : n ≤ 1152921504606846976) : Ter (fun k => spec_l1Num.f k (n : Int)) (bs (Lib.itoa (n : Int))) := by
  induction n using Nat.strongRecOn with
  | _ n ih =>
    refine Ter.succ ?_
    simp only [spec_l1Num.f]
    refine Ter.ifn (by omega) ?_
    by_cases h : n < 10
    · refine Ter.ifp (by omega) ?_
      rw [w64s (n := 10) h (by omega)]
      refine Ter.ifp (by omega) (Ter.ifp (by omega) (Ter.ifp (by omega) ((Ter.ret _).eq ?_)))
      rw [Int.toNat_natCast, Int.toNat_natCast, digit_cut n h, itoa_small h]
    · refine Ter.ifn (by omega) ?_
      have e1 : wrap64 (Int.tdiv (n : Int) 10) = ((n / 10 : Nat) : Int) := by
        rw [Int.tdiv_eq_ediv_of_nonneg (by omega), w64 (by omega) (by omega)]
        omega
      have e2 : Int.tmod (n : Int) 10 = ((n % 10 : Nat) : Int) := by
        rw [tmod_is (by omega)]
        omega
      rw [e1, e2, w64s (n := 10) (show n % 10 < 10 by omega) (by omega)]
      refine (ih (n / 10) (by omega) (by omega)).bind ?_
      refine Ter.ifp (by omega) (Ter.ifp (by omega) (Ter.ifp (by omega) ?_))
      rw [Int.toNat_natCast, Int.toNat_natCast, digit_cut _ (by omega)]
      have hlen := itoa_len (n := ((n / 10 : Nat) : Int)) (by omega) 18 (by omega)
      refine Ter.ifp (by rw [bs_size, bs_size]; simp only [List.length_cons, List.length_nil]; omega) ((Ter.ret _).eq ?_)
      rw [bs_app, itoa_big h]

theorem Itoa_is (n : Int) (h0 : -9223372036854775808 ≤ n) (h1 : n ≤ 9223372036854775807) : strconv_Itoa.f n = some (bs (Lib.itoa n)) := by
  unfold strconv_Itoa.f
  rw [if_pos ⟨h0, h1⟩]
  rfl

theorem l12Bytes_is {l : Bs} (m : Nat) (hl : l.length ≤ 1152921504606846976) : Ter (fun k => spec_l12Bytes.f k (bs l) (m : Int)) (plainB m l) := by
  unfold spec_l12Bytes.f
  have key := down_ (Q := fun i => Ter (fun k => spec_l12Bytes.l0 k (bs l) (m : Int) (i : Int)) ((l.drop i).all (fun x => decide (32 ≤ x.toNat) && decide (x.toNat ≤ 126) && x != 35) && decide (l.length ≤ m))) l.length
    (Ter.succ (by
      simp only [spec_l12Bytes.l0]
      refine Ter.ifn (by rw [bs_size]; omega) ((Ter.ret _).eq ?_)
      rw [List.drop_length, bs_size]
      by_cases h : l.length ≤ m <;> simp [h]))
    (fun i hi ih => by
      refine Ter.succ ?_
      simp only [spec_l12Bytes.l0]
      refine Ter.ifp (by rw [bs_size]; omega) (Ter.ifp (by omega) ?_)
      have hx := byte_lt l[i]
      rw [bs_bt hi, w64s hi (by omega), w64 (n := ((l[i].toNat : Nat) : Int)) (by omega) (by omega), in_is, drop_at hi, List.all_cons]
      by_cases h1 : 32 ≤ l[i].toNat ∧ l[i].toNat ≤ 126
      · simp only [Option.bind_some]
        refine Ter.ifp (by simp; omega) ?_
        by_cases h2 : l[i] = 35
        · refine Ter.ifp (by rw [h2]; rfl) ((Ter.ret _).eq ?_)
          simp [h2]
        · refine Ter.ifn (fun e => h2 (byte_eq (b := 35) e)) (ih.eq ?_)
          have e3 : (l[i] != 35) = true := by simpa using h2
          simp [h1, e3]
      · simp only [Option.bind_some]
        refine Ter.ifn (by simp; omega) ((Ter.ret _).eq ?_)
        have : (decide (32 ≤ l[i].toNat) && decide (l[i].toNat ≤ 126)) = false := by simp; omega
        simp [this]) 0 (by omega)
  exact key

theorem l1Stands_is {l : Bs} (b : UInt8) (hl : l.length ≤ 1152921504606846976) : Ter (fun k => spec_l1Stands.f k (bs l) (b.toNat : Int)) (l.contains b) := by
  unfold spec_l1Stands.f
  have key := down_ (Q := fun i => Ter (fun k => spec_l1Stands.l0 k (bs l) (b.toNat : Int) (i : Int)) ((l.drop i).contains b)) l.length
    (Ter.succ (by
      simp only [spec_l1Stands.l0]
      refine Ter.ifn (by rw [bs_size]; omega) ((Ter.ret _).eq ?_)
      rw [List.drop_length]
      rfl))
    (fun i hi ih => by
      refine Ter.succ ?_
      simp only [spec_l1Stands.l0]
      refine Ter.ifp (by rw [bs_size]; omega) (Ter.ifp (by omega) ?_)
      rw [bs_bt hi, w64s hi (by omega), drop_at hi, List.contains_cons]
      by_cases h2 : l[i] = b
      · refine Ter.ifp (by rw [h2]) ((Ter.ret _).eq ?_)
        simp [h2]
      · refine Ter.ifn (fun e => h2 (byte_eq e)) (ih.eq ?_)
        simp [Ne.symm h2]) 0 (by omega)
  exact key

theorem l12Record_is {c r : Bs} (hc : c.length ≤ 1152921504606846976) (hr : r.length ≤ 1152921504606846976) : Ter (fun k => spec_l12Record.f k (bs c) (bs r)) (okRec c r) := by
  unfold spec_l12Record.f okRec
  by_cases h0 : c = []
  · refine Ter.ifp (by rw [bs_toList, h0]) ((Ter.ret _).eq ?_)
    simp [h0]
  · refine Ter.ifn (by rw [bs_toList]; exact h0) ((l12Bytes_is 160 hc).bind ?_)
    have e0 : c.isEmpty = false := by simpa using h0
    by_cases h1 : plainB 160 c = true
    · refine Ter.ifp h1 ((l1Stands_is 64 hc).bind ?_)
      by_cases h2 : c.contains 64 = true
      · refine Ter.ifp h2 ((Ter.ret _).eq ?_)
        simp only [e0, h1, h2]
        rfl
      · refine Ter.ifn h2 ((l12Bytes_is 260 hr).bind ((Ter.ret _).eq ?_))
        simp only [e0, h1, Bool.not_eq_true] at h2 ⊢
        rw [h2]
        simp
    · refine Ter.ifn h1 ((Ter.ret _).eq ?_)
      simp only [Bool.not_eq_true] at h1
      simp [h1]

theorem any_is : ∀ (l cs : Bs), Lib.containsAny l cs = l.any (fun x => cs.contains x)
  | [], cs => rfl
  | x :: l, cs => by
    have ih := any_is l cs
    unfold Lib.containsAny at ih ⊢
    rw [List.any_cons, ← ih, Lib.indexAny]
    have := Lib.indexAny_ge cs l
    by_cases h : cs.contains x = true
    · rw [if_pos h, h]; rfl
    · rw [if_neg h]
      simp only [Bool.not_eq_true] at h
      rw [h]
      by_cases h2 : Lib.indexAny l cs = -1
      · simp [h2]
      · rw [if_neg (by simpa using h2)]
        simp only [Bool.false_or, decide_eq_decide]
        omega

theorem isPlain_is {l cs : Bs} (m : Nat) (hl : l.length ≤ 1152921504606846976) (hm : m ≤ 1000) (hc1 : cs.length ≤ 10) (hcs : ∀ b ∈ cs, b.toNat < 128) :
    Ter (fun k => impl_isPlain.f k (bs l) (m : Int) (bs cs)) (l.all (fun x => decide (32 ≤ x.toNat) && decide (x.toNat ≤ 126)) && decide (l.length ≤ m) && !l.any (fun x => cs.contains x)) := by
  unfold impl_isPlain.f
  rw [bs_size]
  have key := down_ (Q := fun i => (∀ x ∈ l.take i, x.toNat < 128) → Ter (fun k => impl_isPlain.l0 k (bs l) (m : Int) (bs cs) (l.length : Int) (i : Int)) ((l.drop i).all (fun x => decide (32 ≤ x.toNat) && decide (x.toNat ≤ 126)) && decide (l.length ≤ m) && !l.any (fun x => cs.contains x))) l.length
    (fun hp => Ter.succ (by
      simp only [impl_isPlain.l0]
      refine Ter.ifn (by omega) ?_
      rw [List.drop_length, bs_size]
      by_cases h : l.length ≤ m
      · refine Ter.ifp (by omega) ?_
        unfold strings_ContainsAny.f
        rw [bs_list, bs_list, bs_size, bs_size, if_pos ⟨by omega, by omega, by rw [List.take_length] at hp; exact hp, hcs⟩, any_is]
        refine (Ter.ret _).eq ?_
        simp [h]
      · refine Ter.ifn (by omega) ((Ter.ret _).eq ?_)
        simp [h]))
    (fun i hi ih hp => by
      refine Ter.succ ?_
      simp only [impl_isPlain.l0]
      refine Ter.ifp (by omega) (Ter.ifp (by omega) (Ter.ifp (by rw [bs_size]; omega) ?_))
      rw [bs_bt hi, w64s hi (by omega), drop_at hi, List.all_cons]
      by_cases h1 : (l[i].toNat : Int) < 32
      · refine Ter.ifp h1 ((Ter.ret _).eq ?_)
        have : decide (32 ≤ l[i].toNat) = false := by simp; omega
        simp [this]
      · refine Ter.ifn h1 ?_
        by_cases h2 : (l[i].toNat : Int) > 126
        · refine Ter.ifp h2 ((Ter.ret _).eq ?_)
          have : decide (l[i].toNat ≤ 126) = false := by simp; omega
          simp [this]
        · refine Ter.ifn h2 ((ih ?_).eq ?_)
          · intro x hx
            rw [← take_one hi, List.mem_append, List.mem_singleton] at hx
            rcases hx with hx | hx
            · exact hp x hx
            · subst hx; omega
          · have e1 : decide (32 ≤ l[i].toNat) = true := by simp; omega
            have e2 : decide (l[i].toNat ≤ 126) = true := by simp; omega
            simp [e1, e2]) 0 (by omega)
  exact key (by simp)

theorem plain_split (m : Nat) (l : Bs) : plainB m l = (l.all (fun x => decide (32 ≤ x.toNat) && decide (x.toNat ≤ 126)) && l.all (fun x => x != 35) && decide (l.length ≤ m)) := by
  unfold plainB
  congr 1
  induction l with
  | nil => rfl
  | cons x l ih =>
    have : ∀ a b c d : Bool, (a && b && (c && d)) = (a && c && (b && d)) := by decide
    rw [List.all_cons, List.all_cons, List.all_cons, ih, this]

theorem any_hash (l : Bs) : (!l.any (fun x => ([35] : Bs).contains x)) = l.all (fun x => x != 35) := by
  induction l with
  | nil => rfl
  | cons x l ih => simp only [List.any_cons, List.all_cons, ← ih, Bool.not_or]; congr 1; by_cases h : x = 35 <;> simp [h]

theorem any_both (l : Bs) : (!l.any (fun x => ([35, 64] : Bs).contains x)) = (l.all (fun x => x != 35) && !l.contains 64) := by
  induction l with
  | nil => rfl
  | cons x l ih =>
    by_cases h : x = 35
    · subst h; simp
    · by_cases h2 : x = 64
      · subst h2; simp
      · have this : ((64 : UInt8) == x) = false := by simpa using Ne.symm h2
        have e1 : ([35, 64] : Bs).contains x = false := by simp [h, h2]
        have e2 : (x != 35) = true := by simpa using h
        rw [List.any_cons, e1, List.all_cons, e2, show (x :: l).contains 64 = l.contains 64 by rw [List.contains_cons, this, Bool.false_or], Bool.false_or, Bool.true_and]
        exact ih

theorem IsValidRecord_is {c r : Bs} (hc : c.length ≤ 1152921504606846976) (hr : r.length ≤ 1152921504606846976) : Ter (fun k => impl_IsValidRecord.f k (bs c) (bs r)) (okRec c r) := by
  unfold impl_IsValidRecord.f okRec
  have e1 : Ter (fun k => impl_isCommand.f k (bs c)) (!c.isEmpty && plainB 160 c && !c.contains 64) := by
    unfold impl_isCommand.f
    by_cases h0 : c = []
    · refine Ter.ifp (by rw [bs_toList, h0]) ((Ter.ret _).eq ?_)
      simp [h0]
    · refine Ter.ifn (by rw [bs_toList]; exact h0) ?_
      rw [lit2]
      refine (isPlain_is 160 hc (by omega) (by simp) (by decide)).bind ((Ter.ret _).eq ?_)
      have e0 : c.isEmpty = false := by simpa using h0
      rw [any_both, plain_split, e0]
      exact (by decide : ∀ a b d e : Bool, (a && d && (b && e)) = (!false && (a && b && d) && e)) _ _ _ _
  refine e1.bind ?_
  by_cases h : (!c.isEmpty && plainB 160 c && !c.contains 64) = true
  · rw [h]
    refine Ter.ifp rfl ?_
    rw [lit1]
    refine (isPlain_is 260 hr (by omega) (by simp) (by decide)).bind ((Ter.ret _).eq ?_)
    rw [any_hash, plain_split, Bool.true_and]
    exact (by decide : ∀ a b d : Bool, (a && d && b) = (a && b && d)) _ _ _
  · simp only [Bool.not_eq_true] at h
    rw [h]
    exact Ter.ifn (by decide) ((Ter.ret _).eq rfl)

theorem l1Seal_is {l : Bs} (hl : l.length ≤ 1000000000) : Ter (fun k => spec_l1Seal.f k (bs l)) (bs (sealB l)) := by
  have hs := sumL_range l 7 (by omega) (by omega)
  obtain ⟨n, hn⟩ : ∃ n : Nat, sumL 7 l = (n : Int) := ⟨(sumL 7 l).toNat, by omega⟩
  have h2 := itoa_len hs.1 5 (by omega)
  unfold spec_l1Seal.f sealB
  refine Ter.ifp (by rw [bs_size]; omega) ((l1Sum_is (by omega)).bind ?_)
  rw [hn] at h2 ⊢
  refine (l1Num_is n (by omega)).bind ?_
  rw [lit1, bs_app]
  refine Ter.ifp (by rw [bs_size, bs_size]; simp only [List.length_append, List.length_cons, List.length_nil]; omega) ((Ter.ret _).eq ?_)
  rw [bs_app]
  simp

theorem line_app (k : Int) (c r : Bs) : ((((Lib.itoa k ++ [32]) ++ c) ++ [64]) ++ r) = bodyB k c r := by unfold bodyB; simp

theorem l12Line_is {c r : Bs} (k : Nat) (hk : k ≤ 1000) (hc : c.length ≤ 100000000) (hr : r.length ≤ 100000000) : Ter (fun n => spec_l12Line.f n (k : Int) (bs c) (bs r)) (bs (lineB (k : Int) c r)) := by
  have h2 := itoa_len (n := (k : Int)) (by omega) 3 (by omega)
  unfold spec_l12Line.f
  refine (l1Num_is k (by omega)).bind ?_
  simp only [lit1, bs_app, bs_size, List.length_append, List.length_cons, List.length_nil]
  refine Ter.ifp (by omega) (Ter.ifp (by omega) (Ter.ifp (by omega) (Ter.ifp (by omega) ?_)))
  rw [line_app]
  have h3 : (bodyB (k : Int) c r).length ≤ 1000000000 := by unfold bodyB; simp only [List.length_append, List.length_cons]; omega
  refine (l1Seal_is h3).bind ?_
  have h4 := seal_len (bodyB (k : Int) c r)
  rw [bs_size]
  exact Ter.ifp (by omega) ((Ter.ret _).eq (by rw [bs_app]; rfl))

theorem Contains_is (l : Bs) (b : UInt8) : strings_Contains.f (bs l) (⟨#[b]⟩ : ByteArray) = some (l.contains b) := by
  show some (decide (0 ≤ Lib.indexByte l b)) = _
  congr 1
  induction l with
  | nil => rfl
  | cons x l ih =>
    rw [List.contains_cons, ← ih, Lib.indexByte]
    have := Lib.indexByte_ge l b
    by_cases h : x = b
    · subst h; simp
    · have h1 : (x == b) = false := by simpa using h
      have h2 : (b == x) = false := by simpa using Ne.symm h
      rw [h1, h2]
      by_cases h3 : Lib.indexByte l b = -1
      · simp [h3]
      · have h4 : (Lib.indexByte l b == -1) = false := by simpa using h3
        rw [h4]
        simp only [Bool.false_eq_true, if_false, Bool.false_or, decide_eq_decide]
        omega

theorem AppendChecksum_is {l : Bs} (hl : l.length ≤ 1000000000) (hn : (35 : UInt8) ∉ l) : Ter (fun k => impl_AppendChecksum.f k (bs l)) (if (sealB l).length ≤ 4000 then (bs (sealB l), true) else (bs [], false)) := by
  have hs := sumL_range l 7 (by omega) (by omega)
  have h2 := itoa_len hs.1 5 (by omega)
  have h3 : (sealB l).length = l.length + 1 + (Lib.itoa (sumL 7 l)).length := by unfold sealB; simp only [List.length_append, List.length_cons]; omega
  have hj : l.length ≤ 4000 → Ter (fun k => impl_AppendChecksum.j0 k (bs l) false) (if (sealB l).length ≤ 4000 then (bs (sealB l), true) else (bs [], false)) := by
    intro h4
    refine Ter.succ ?_
    simp only [impl_AppendChecksum.j0]
    refine Ter.ifn (by decide) (Ter.ifp (by rw [bs_size]; omega) ((checksum_is (by omega)).bind ?_))
    rw [Itoa_is _ (by omega) (by omega)]
    simp only [Option.bind_some, lit1, lit0, bs_app, bs_size, List.length_append, List.length_cons, List.length_nil]
    refine Ter.ifp (by omega) ?_
    by_cases h5 : (sealB l).length ≤ 4000
    · rw [if_pos h5]
      refine Ter.ifn (by omega) ((Ter.ret _).eq ?_)
      unfold sealB
      simp
    · rw [if_neg h5]
      exact Ter.ifp (by omega) (Ter.ret _)
  unfold impl_AppendChecksum.f
  by_cases h4 : l.length ≤ 4000
  · refine Ter.ifn (by rw [bs_size]; omega) ?_
    rw [Contains_is]
    have : l.contains 35 = false := by simpa using hn
    rw [this]
    exact hj h4
  · refine Ter.ifp (by rw [bs_size]; omega) ?_
    refine Ter.succ ?_
    simp only [impl_AppendChecksum.j0]
    rw [if_neg (by omega)]
    exact Ter.ifp trivial (Ter.ret _)

theorem cut_no (l : Bs) (b : UInt8) : b ∉ (Lib.cut l [b]).1 := by
  by_cases hm : b ∈ l
  · have e := split_at hm
    rw [e, cut_app _ (not_ahead l)]
    exact not_ahead l
  · rw [cut_not hm]
    exact hm

theorem cut_len (l : Bs) (b : UInt8) : (Lib.cut l [b]).1.length ≤ l.length ∧ (Lib.cut l [b]).2.1.length ≤ l.length := by
  by_cases hm : b ∈ l
  · have e := split_at hm
    have e2 : Lib.cut l [b] = (ahead b l, behind b l, true) := by rw [e, cut_app _ (not_ahead l), ← e]
    have e3 := congrArg List.length e
    simp only [List.length_append, List.length_cons] at e3
    rw [e2]
    constructor <;> simp only [] <;> omega
  · rw [cut_not hm]
    simp

theorem Cut_is (l : Bs) (b : UInt8) (hl : l.length < 4294967281) : strings_Cut.f (bs l) (⟨#[b]⟩ : ByteArray) = some (bs (Lib.cut l [b]).1, bs (Lib.cut l [b]).2.1, (Lib.cut l [b]).2.2) := by
  unfold strings_Cut.f
  rw [if_pos (by rw [bs_size]; exact hl)]
  rfl

theorem Verify_is {l : Bs} (hl : l.length ≤ 1000000000) : ∃ b : Bool, Ter (fun k => impl_VerifyChecksum.f k (bs l)) (bs (verB l), b) := by
  have h1 := cut_len l 35
  unfold impl_VerifyChecksum.f
  simp only [Cut_is l 35 (by omega), Option.bind_some]
  by_cases h : (sealB (Lib.cut l [35]).1).length ≤ 4000
  · by_cases h2 : sealB (Lib.cut l [35]).1 = l
    · refine ⟨true, (AppendChecksum_is (by omega) (cut_no l 35)).bind ?_⟩
      rw [if_pos h]
      refine Ter.ifp rfl (Ter.ifp (by rw [bs_toList, bs_toList]; exact h2) ((Ter.ret _).eq ?_))
      unfold verB
      rw [if_pos ⟨h2, by rw [h2] at h; exact h⟩]
    · refine ⟨false, (AppendChecksum_is (by omega) (cut_no l 35)).bind ?_⟩
      rw [if_pos h]
      refine Ter.ifp rfl (Ter.ifn (by rw [bs_toList, bs_toList]; exact h2) ((Ter.ret _).eq ?_))
      unfold verB
      rw [if_neg (fun e => h2 e.1)]
      rfl
  · refine ⟨false, (AppendChecksum_is (by omega) (cut_no l 35)).bind ?_⟩
    rw [if_neg h]
    refine Ter.ifn (by decide) ((Ter.ret _).eq ?_)
    unfold verB
    rw [if_neg (fun e => h (by rw [e.1]; exact e.2))]
    rfl

/-- What both encoders tell. -/
def encB (k : Int) (c r : Bs) : ByteArray × Bool := if (0 ≤ k ∧ k ≤ 59) ∧ okRec c r = true then (bs (lineB k c r), true) else (bs [], false)

theorem implEncode_is {c r : Bs} (k : Int) (hc : c.length ≤ 100000000) (hr : r.length ≤ 100000000) : Ter (fun n => impl_EncodeRecord.f n k (bs c) (bs r)) (encB k c r) := by
  have hj : Ter (fun n => impl_EncodeRecord.j0 n k true (bs c) (bs r)) (bs [], false) := Ter.succ (by simp only [impl_EncodeRecord.j0]; exact Ter.ifp trivial (Ter.ret _))
  unfold impl_EncodeRecord.f encB
  rw [within_is]
  simp only [Option.bind_some]
  by_cases h : 0 ≤ k ∧ k ≤ 59
  · refine Ter.ifp (by simp; omega) ((IsValidRecord_is (by omega) (by omega)).bind ?_)
    by_cases h2 : okRec c r = true
    · rw [if_pos ⟨h, h2⟩, h2]
      refine Ter.succ ?_
      simp only [impl_EncodeRecord.j0]
      rw [Itoa_is k (by omega) (by omega)]
      simp only [Option.bind_some, lit1, bs_app, bs_size, List.length_append, List.length_cons, List.length_nil]
      have h3 := itoa_len h.1 1 (by omega)
      have ho := okRec_ok h2
      have h4 := body_len h.1 (by omega) ho
      have h5 := seal_len (bodyB k c r)
      refine Ter.ifn (by decide) (Ter.ifp (by omega) (Ter.ifp (by omega) (Ter.ifp (by omega) (Ter.ifp (by omega) ?_))))
      rw [line_app]
      have hA := AppendChecksum_is (l := bodyB k c r) (by omega) (body_hash h.1 ho)
      rw [if_pos (show (sealB (bodyB k c r)).length ≤ 4000 by omega)] at hA
      refine hA.bind ?_
      exact Ter.ifp (by rw [bs_size]; omega) ((Ter.ret _).eq (by rw [bs_app]; rfl))
    · rw [if_neg (fun e => h2 e.2)]
      simp only [Bool.not_eq_true] at h2
      rw [h2]
      exact hj
  · rw [if_neg (fun e => h e.1)]
    exact Ter.ifn (by simp; omega) hj
end Go.Proofs.YtnjambhlblngcaaDoor.P
namespace Go.Proofs.YtnjambhlblngcaaDoor.P
open Go.RowKit Go.Proofs.YtnjambhlblngcaaDoorW.PrintWords Go.Proofs.YtnjambhlblngcaaDoorW.PrintLast Go.Proofs.YtnjambhlblngcaaDoorW.PrintMore
set_option linter.unusedVariables false
set_option linter.unusedSimpArgs false

theorem take_drop_app {l : Bs} {i j : Nat} (h : i ≤ j) : l.drop i = (l.take j).drop i ++ l.drop j := by
  by_cases hj : j ≤ l.length
  · have e : l = l.take j ++ l.drop j := (List.take_append_drop j l).symm
    have : (l.take j ++ l.drop j).drop i = (l.take j).drop i ++ l.drop j := List.drop_append_of_le_length (by rw [List.length_take]; omega)
    rw [← e] at this
    exact this
  · rw [show l.drop j = [] from List.drop_eq_nil_of_le (by omega), List.append_nil, List.take_of_length_le (by omega)]

theorem l1Split_is {l : Bs} (b : UInt8) (hl : l.length ≤ 1000000000) : ∃ (p : List ByteArray) (q : ByteArray × List ByteArray), Ter (fun k => spec_l1Split.f k (bs l) (b.toNat : Int)) (bs (ahead b l) :: p) ∧ (b ∉ l → p = []) ∧ (b ∈ l → p = q.1 :: q.2) := by
  have key := down_ (Q := fun i => ∀ (out : List ByteArray) (a : Nat), a ≤ i → out.length ≤ i → b ∉ (l.take i).drop a → ∃ (p : List ByteArray) (q : ByteArray × List ByteArray), Ter (fun k => spec_l1Split.l0 k (bs l) (b.toNat : Int) out (a : Int) (i : Int)) (out ++ bs (ahead b (l.drop a)) :: p) ∧ (b ∉ l.drop i → p = []) ∧ (b ∈ l.drop i → p = q.1 :: q.2)) l.length
    (fun out a ha ho hb => ⟨[], (ByteArray.empty, []), Ter.succ (by
      simp only [spec_l1Split.l0]
      refine Ter.ifn (by rw [bs_size]; omega) (Ter.ifp (by omega) (Ter.ifp (by rw [bs_size]; omega) (Ter.ifp (by omega) ((Ter.ret _).eq ?_))))
      rw [bs_size, Int.toNat_natCast, bs_from]
      rw [List.take_length] at hb
      rw [ahead_none hb]), fun _ => rfl, fun h => by rw [List.drop_length] at h; cases h⟩)
    (fun i hi ih out a ha ho hb => by
      have hbt : bt (bs l) (i : Int) = (l[i].toNat : Int) := bs_bt hi
      by_cases h2 : l[i] = b
      · obtain ⟨p, q, h3, _, _⟩ := ih (out ++ [bs (ahead b (l.drop a))]) (i + 1) (Nat.le_refl _) (by simp; omega) (by rw [List.drop_eq_nil_of_le (by rw [List.length_take]; omega)]; simp)
        refine ⟨bs (ahead b (l.drop (i + 1))) :: p, (bs (ahead b (l.drop (i + 1))), p), Ter.succ ?_, fun h => absurd (by rw [drop_at hi, h2]; simp) h, fun _ => rfl⟩
        simp only [spec_l1Split.l0]
        refine Ter.ifp (by rw [bs_size]; omega) (Ter.ifp (by omega) (Ter.ifp (by rw [hbt, h2]) (Ter.ifp (by omega) (Ter.ifp (by omega) (Ter.ifp (by rw [bs_size]; omega) (Ter.ifp (by omega) ?_))))))
        rw [w64s hi (by omega), Int.toNat_natCast, Int.toNat_natCast, bs_cut]
        have e1 : ahead b (l.drop a) = (l.take i).drop a := by
          rw [take_drop_app ha, drop_at hi, h2]
          exact ahead_app _ hb
        rw [e1] at h3
        refine h3.eq ?_
        rw [e1]
        simp
      · obtain ⟨p, q, h3, h4, h5⟩ := ih out a (by omega) (by omega) (by
          have e : (l.take (i + 1)).drop a = (l.take i).drop a ++ [l[i]] := by
            rw [← take_one hi, List.drop_append_of_le_length (by rw [List.length_take]; omega)]
          rw [e, List.mem_append, List.mem_singleton]
          rintro (h | h)
          · exact hb h
          · exact h2 h.symm)
        refine ⟨p, q, Ter.succ ?_, fun h => h4 (fun h6 => h (by rw [drop_at hi]; exact List.mem_cons_of_mem _ h6)), fun h => h5 (by
          rw [drop_at hi] at h
          rcases List.mem_cons.1 h with h | h
          · exact absurd h.symm h2
          · exact h)⟩
        simp only [spec_l1Split.l0]
        refine Ter.ifp (by rw [bs_size]; omega) (Ter.ifp (by omega) (Ter.ifn (fun e => h2 (byte_eq (hbt.symm.trans e))) ?_))
        rw [w64s hi (by omega)]
        exact h3) 0 (by omega)
  obtain ⟨p, q, h1, h2, h3⟩ := key [] 0 (Nat.le_refl _) (Nat.le_refl _) (by simp)
  exact ⟨p, q, h1, h2, h3⟩

theorem rd_head (x : ByteArray) (p : List ByteArray) : rdOf ByteArray.empty (x :: p) 0 = x := rfl

theorem ahead_len (b : UInt8) (l : Bs) : (ahead b l).length ≤ l.length := (List.takeWhile_sublist _).length_le

theorem dec_is {l : Bs} (k : Nat) (hk : k ≤ 100) (hl : l.length ≤ 1000000) : ∃ x y : Bs, ∃ ok : Bool, Ter (fun n => spec_l12Decode.f n (bs l) (k : Int)) (bs x, bs y, ok) ∧ dec l (k : Int) = if ok = true then some (x, y) else none := by
  have hn := itoa_len (n := (k : Int)) (by omega) 2 (by omega)
  obtain ⟨p, q, hs, _, _⟩ := l1Split_is (l := l) 35 (by omega)
  have ht := ahead_len 35 l
  have hF0 : ∀ {r : ByteArray × ByteArray × Bool}, Ter (fun n => if ((ahead 35 l).length : Int) < ((Lib.itoa (k : Int) ++ [32]).length : Int) then spec_l12Decode.j0 n (bs l) (k : Int) (bs (Lib.itoa (k : Int) ++ [32])) (bs (ahead 35 l)) true else spec_l12Decode.j0 n (bs l) (k : Int) (bs (Lib.itoa (k : Int) ++ [32])) (bs (ahead 35 l)) ((ahead 35 l).take (Lib.itoa (k : Int) ++ [32]).length != Lib.itoa (k : Int) ++ [32])) r → Ter (fun n => spec_l12Decode.f n (bs l) (k : Int)) r := by
    intro r h
    unfold spec_l12Decode.f
    refine (l1Num_is k (by omega)).bind ?_
    simp only [lit1, bs_app, bs_size]
    refine Ter.ifp (by omega) (hs.bind ?_)
    refine Ter.ifp (by simp only [List.length_cons]; omega) ?_
    rw [rd_head, bs_size]
    by_cases hc : ((ahead 35 l).length : Int) < ((Lib.itoa (k : Int) ++ [32]).length : Int)
    · simp only [if_pos hc] at h ⊢
      exact h
    · simp only [if_neg hc] at h ⊢
      refine Ter.ifp (by omega) (Ter.ifp (by omega) ?_)
      rw [Int.toNat_natCast, bs_upto, bs_toList, bs_toList]
      exact h
  generalize hd_ : Lib.itoa (k : Int) ++ [32] = hd at hF0
  generalize ht_ : ahead 35 l = text at hF0 ht
  have hT : Ter (fun n => spec_l12Decode.j0 n (bs l) (k : Int) (bs hd) (bs text) true) (bs [], bs [], false) := Ter.succ (by simp only [spec_l12Decode.j0]; exact Ter.ifp trivial (Ter.ret _))
  unfold dec
  simp only [hd_, ht_]
  by_cases c1 : text.length < hd.length
  · simp only [if_pos (Int.ofNat_lt.2 c1)] at hF0
    exact ⟨[], [], false, hF0 hT, by rw [if_pos (.inl c1)]; rfl⟩
  · simp only [if_neg (fun e => c1 (Int.ofNat_lt.1 e))] at hF0
    have hF := @hF0
    clear hF0
    by_cases c2 : text.take hd.length = hd
    · have e2 : (text.take hd.length != hd) = false := by simpa using c2
      rw [e2] at hF
      rw [if_neg (by rintro (h | h); exact c1 h; exact h c2)]
      obtain ⟨p2, q2, hs2, _, _⟩ := l1Split_is (l := text.drop hd.length) 64 (by simp; omega)
      have ht2 := ahead_len 64 (text.drop hd.length)
      have h7 : (ahead 64 (text.drop hd.length)).length ≤ 1000000 := by
        rw [List.length_drop] at ht2
        omega
      have hJ : ∀ {r : ByteArray × ByteArray × Bool}, Ter (fun n => if (((ahead 64 (text.drop hd.length)).length : Nat) : Int) = ((text.drop hd.length).length : Int) then some (bs [], bs [], false) else ((spec_l12Record.f n (bs (ahead 64 (text.drop hd.length))) (bs ((text.drop hd.length).drop ((ahead 64 (text.drop hd.length)).length + 1)))).bind fun t188 => (if t188 = true then ((spec_l12Line.f n (k : Int) (bs (ahead 64 (text.drop hd.length))) (bs ((text.drop hd.length).drop ((ahead 64 (text.drop hd.length)).length + 1)))).bind fun t189 => some (bs (ahead 64 (text.drop hd.length)), bs ((text.drop hd.length).drop ((ahead 64 (text.drop hd.length)).length + 1)), t189.toList == l ++ [10])) else some (bs (ahead 64 (text.drop hd.length)), bs ((text.drop hd.length).drop ((ahead 64 (text.drop hd.length)).length + 1)), false)))) r → Ter (fun n => spec_l12Decode.j0 n (bs l) (k : Int) (bs hd) (bs text) false) r := by
        intro r h
        refine Ter.succ ?_
        simp only [spec_l12Decode.j0, bs_size, Int.toNat_natCast, bs_from]
        refine Ter.ifn (by decide) (Ter.ifp (by omega) (Ter.ifp (by omega) (hs2.bind ?_)))
        refine Ter.ifp (by simp only [List.length_cons]; omega) ?_
        rw [rd_head]
        simp only [bs_size]
        by_cases c3 : (((ahead 64 (text.drop hd.length)).length : Nat) : Int) = ((text.drop hd.length).length : Int)
        · simp only [if_pos c3] at h
          exact Ter.ifp c3 h
        · simp only [if_neg c3] at h
          refine Ter.ifn c3 ?_
          have e3 : wrap64 ((((ahead 64 (text.drop hd.length)).length : Nat) : Int) + 1) = (((ahead 64 (text.drop hd.length)).length + 1 : Nat) : Int) := by
            generalize (ahead 64 (text.drop hd.length)).length = m at h7
            rw [w64 (by omega) (by omega)]
            omega
          simp only [e3]
          refine Ter.ifp (by omega) (Ter.ifp (by omega) ?_)
          have e9 : l.length + 1 ≤ 9223372036854775807 := by omega
          simp only [Int.toNat_natCast, bs_from, lit1, bs_app, bs_toList, if_pos e9]
          exact h
      by_cases c3 : (ahead 64 (text.drop hd.length)).length = (text.drop hd.length).length
      · refine ⟨[], [], false, hF (hJ (Ter.ifp (by rw [c3]) (Ter.ret _))), ?_⟩
        rw [if_pos c3]
        rfl
      · rw [if_neg c3]
        generalize ha_ : ahead 64 (text.drop hd.length) = ask at hJ ht2 c3
        generalize hr_ : (text.drop hd.length).drop (ask.length + 1) = rep at hJ
        have h5 : ask.length ≤ 1000000 := by simp at ht2; omega
        have h6 : rep.length ≤ 1000000 := by rw [← hr_]; simp; omega
        by_cases c4 : okRec ask rep = true
        · refine ⟨ask, rep, lineB (k : Int) ask rep == l ++ [10], hF (hJ (Ter.ifn (by omega) ((l12Record_is (by omega) (by omega)).bind ?_))), ?_⟩
          · refine Ter.ifp c4 ((l12Line_is k (by omega) (by omega) (by omega)).bind ((Ter.ret _).eq ?_))
            rw [bs_toList]
          · by_cases c5 : lineB (k : Int) ask rep = l ++ [10]
            · rw [if_pos ⟨c4, c5⟩, if_pos (by simpa using c5)]
            · rw [if_neg (fun e => c5 e.2), if_neg (by simpa using c5)]
        · refine ⟨ask, rep, false, hF (hJ (Ter.ifn (by omega) ((l12Record_is (by omega) (by omega)).bind (Ter.ifn c4 (Ter.ret _))))), ?_⟩
          rw [if_neg (fun e => c4 e.1)]
          rfl
    · have e2 : (text.take hd.length != hd) = true := by simpa using c2
      rw [e2] at hF
      exact ⟨[], [], false, hF hT, by rw [if_pos (.inr c2)]; rfl⟩

def toRec (p : Bs × Bs) : S27 := ⟨bs p.1, bs p.2⟩

theorem one_len {k : Int} (hk : 0 ≤ k) {t : Bs} {c r : Bs} (h : one k t = some (c, r)) : t.length ≥ (lineB k c r).length := (one_starts h).2.length_le

theorem line_ahead {k : Int} (hk : 0 ≤ k) {t c r : Bs} (h : one k t = some (c, r)) : (10 : UInt8) ∈ t ∧ (ahead 10 t).length + 1 = (lineB k c r).length := by
  obtain ⟨ho, q, rfl⟩ := one_starts h
  have hr := okRec_ok ho
  unfold lineB
  refine ⟨by simp, ?_⟩
  rw [List.append_assoc, show [10] ++ q = 10 :: q from rfl, ahead_app q (seal_nl (body_nl hk hr))]
  simp

theorem l12Open_is {l : Bs} (hl : l.length ≤ 1000000) : Ter (fun n => spec_l12Open.f n (bs l)) ((recs 60 0 l).map toRec, (lenR 0 (recs 60 0 l) : Int)) := by
  have key : ∀ (n : Nat) (out : List S27) (a : Nat), out.length + n = 60 → a ≤ l.length → Ter (fun k => spec_l12Open.l0 k (bs l) out (a : Int)) (out ++ (recs n (out.length : Int) (l.drop a)).map toRec, ((a + lenR (out.length : Int) (recs n (out.length : Int) (l.drop a)) : Nat) : Int)) := by
    have hj : ∀ (out : List S27) (a : Nat), Ter (fun k => spec_l12Open.j1 k (bs l) out (a : Int) false) (out, (a : Int)) := fun out a => Ter.succ (by simp only [spec_l12Open.j1]; exact Ter.ifn (by decide) (Ter.ret _))
    intro n
    induction n with
    | zero =>
      intro out a h1 h2
      refine Ter.succ ?_
      simp only [spec_l12Open.l0, recs, List.map_nil, List.append_nil, lenR, Nat.add_zero]
      rw [show decide ((out.length : Int) < 60) = false by simp; omega]
      exact Ter.if_eq (fun _ => hj out a) (fun _ => hj out a)
    | succ n ih =>
      intro out a h1 h2
      refine Ter.succ ?_
      simp only [spec_l12Open.l0, bs_size]
      by_cases h3 : a < l.length
      · refine Ter.ifp (by omega) ?_
        rw [show decide ((out.length : Int) < 60) = true by simp; omega]
        refine Ter.succ ?_
        simp only [spec_l12Open.j1, bs_size, Int.toNat_natCast, bs_from]
        refine Ter.ifp trivial (Ter.ifp (by omega) (Ter.ifp (by omega) ?_))
        obtain ⟨p, q, hs, hp1, hp2⟩ := l1Split_is (l := l.drop a) 10 (by simp; omega)
        refine hs.bind (Ter.ifp (by simp only [List.length_cons]; omega) ?_)
        rw [rd_head]
        have hal := ahead_len 10 (l.drop a)
        obtain ⟨x, y, ok, hd, hd2⟩ := dec_is (l := ahead 10 (l.drop a)) out.length (by omega) (by simp at hal; omega)
        refine hd.bind ?_
        have e1 := one'_eq (k := (out.length : Int)) (by omega) (by omega) (l.drop a)
        unfold one' at e1
        by_cases h4 : (10 : UInt8) ∈ l.drop a
        · rw [if_pos h4, hd2] at e1
          rw [hp2 h4]
          refine Ter.ifn (by simp only [List.length_cons]; omega) ?_
          cases ok with
          | false =>
            rw [if_neg (by decide)] at e1
            refine Ter.ifn (by simp) ((Ter.ret _).eq ?_)
            simp only [recs, ← e1, List.map_nil, List.append_nil, lenR, Nat.add_zero]
          | true =>
            rw [if_pos rfl] at e1
            refine Ter.ifp rfl (Ter.ifp (by omega) ?_)
            have e2 := (line_ahead (k := (out.length : Int)) (by omega) e1.symm).2
            have e3 := one_len (k := (out.length : Int)) (by omega) e1.symm
            simp only [List.length_drop] at e3
            have e4 : wrap64 (wrap64 ((a : Int) + ((bs (ahead 10 (l.drop a))).size : Int)) + 1) = ((a + (lineB (out.length : Int) x y).length : Nat) : Int) := by
              rw [bs_size, w64 (n := (a : Int) + _) (by omega) (by omega), w64 (by omega) (by omega)]
              omega
            rw [e4]
            refine (ih (out ++ [(⟨bs x, bs y⟩ : S27)]) (a + (lineB (out.length : Int) x y).length) (by simp; omega) (by omega)).eq ?_
            have e5 : ((out ++ [(⟨bs x, bs y⟩ : S27)]).length : Int) = (out.length : Int) + 1 := by simp
            rw [e5]
            simp only [recs, ← e1, List.map_cons, lenR, List.drop_drop]
            rw [List.append_assoc, Nat.add_assoc]
            rfl
        · rw [if_neg h4] at e1
          rw [hp1 h4]
          refine Ter.ifp (by simp) ((Ter.ret _).eq ?_)
          simp only [recs, ← e1, List.map_nil, List.append_nil, lenR, Nat.add_zero]
      · refine Ter.ifn (by omega) ((hj out a).eq ?_)
        have e0 : l.drop a = [] := List.drop_eq_nil_of_le (by omega)
        simp only [recs, e0, one_nil (k := (out.length : Int)) (by omega), List.map_nil, List.append_nil, lenR, Nat.add_zero]
  unfold spec_l12Open.f
  have := key 60 [] 0 rfl (by omega)
  simpa using this

/-- The program's ends, as the printed function keeps them: behind the first one. -/
def endsI (a : Nat) (k : Int) (l : List (Bs × Bs)) : List Int := (endsR a k l).map fun (n : Nat) => (n : Int)

theorem endsI_cons (a : Nat) (k : Int) (e : Bs × Bs) (l : List (Bs × Bs)) : endsI a k (e :: l) = (a : Int) :: endsI (a + (lineB k e.1 e.2).length) (k + 1) l := rfl

theorem encB_eq {k : Int} (h0 : 0 ≤ k) (h1 : k ≤ 59) {c r : Bs} : encB k c r = if okRec c r = true then (bs (lineB k c r), true) else (bs [], false) := by
  unfold encB
  by_cases h : okRec c r = true
  · rw [if_pos ⟨⟨h0, h1⟩, h⟩, if_pos h]
  · rw [if_neg (fun e => h e.2), if_neg h]

theorem verB_len (l : Bs) : (verB l).length ≤ l.length := by
  have := (cut_len l 35).1
  unfold verB
  split
  · exact this
  · simp

set_option maxHeartbeats 1000000 in
theorem readRecords_is {l : Bs} (hl : l.length ≤ 1000000) : Ter (fun n => impl_readRecords.f n (bs l)) ((recs 60 0 l).map toRec, endsI 0 0 (recs 60 0 l)) := by
  have key : ∀ (n : Nat) (out : List S27) (en : List Int) (a : Nat), out.length + n = 60 → en.length + n ≤ 61 → a ≤ l.length → Ter (fun k => impl_readRecords.l0 k (bs l) out (en ++ [(a : Int)]) (a : Int)) (out ++ (recs n (out.length : Int) (l.drop a)).map toRec, en ++ endsI a (out.length : Int) (recs n (out.length : Int) (l.drop a))) := by
    intro n
    induction n with
    | zero =>
      intro out en a h1 h3 h4
      refine Ter.succ ?_
      simp only [impl_readRecords.l0, recs, List.map_nil, List.append_nil]
      exact Ter.ifn (by omega) (Ter.ret _)
    | succ n ih =>
      intro out en a h1 h3 h4
      refine Ter.succ ?_
      simp only [impl_readRecords.l0, bs_size, Int.toNat_natCast, bs_from]
      refine Ter.ifp (by omega) (Ter.ifp (by omega) (Ter.ifp (by omega) ?_))
      have hstop : one (out.length : Int) (l.drop a) = none → Ter (fun _ : Nat => some (out, en ++ [(a : Int)])) (out ++ (recs (n + 1) (out.length : Int) (l.drop a)).map toRec, en ++ endsI a (out.length : Int) (recs (n + 1) (out.length : Int) (l.drop a))) := by
        intro h
        refine (Ter.ret _).eq ?_
        simp only [recs, h, List.map_nil, List.append_nil]
        rfl
      have hd1 : (l.drop a).length ≤ 1000000 := by simp; omega
      generalize ht_ : l.drop a = t at hstop hd1 ⊢
      have hc1 := cut_len t 10
      rw [Cut_is t 10 (by omega)]
      simp only [Option.bind_some]
      by_cases hw : (Lib.cut t [10]).2.2 = true
      · refine Ter.ifp hw ?_
        obtain ⟨vb, hv⟩ := Verify_is (l := (Lib.cut t [10]).1) (by omega)
        refine hv.bind ?_
        have hvl := verB_len (Lib.cut t [10]).1
        have hc2 := cut_len (verB (Lib.cut t [10]).1) 32
        have hc3 := cut_len (Lib.cut (verB (Lib.cut t [10]).1) [32]).2.1 64
        simp only [Cut_is (verB (Lib.cut t [10]).1) 32 (by omega), Option.bind_some, Cut_is (Lib.cut (verB (Lib.cut t [10]).1) [32]).2.1 64 (by omega)]
        have hone : one (out.length : Int) t = if okRec (Lib.cut (Lib.cut (verB (Lib.cut t [10]).1) [32]).2.1 [64]).1 (Lib.cut (Lib.cut (verB (Lib.cut t [10]).1) [32]).2.1 [64]).2.1 = true ∧ lineB (out.length : Int) (Lib.cut (Lib.cut (verB (Lib.cut t [10]).1) [32]).2.1 [64]).1 (Lib.cut (Lib.cut (verB (Lib.cut t [10]).1) [32]).2.1 [64]).2.1 = (Lib.cut t [10]).1 ++ [10] then some ((Lib.cut (Lib.cut (verB (Lib.cut t [10]).1) [32]).2.1 [64]).1, (Lib.cut (Lib.cut (verB (Lib.cut t [10]).1) [32]).2.1 [64]).2.1) else none := by
          unfold one
          simp only [hw, if_true]
        have hcl : (Lib.cut (Lib.cut (verB (Lib.cut t [10]).1) [32]).2.1 [64]).1.length ≤ 1000000 := by omega
        have hrl : (Lib.cut (Lib.cut (verB (Lib.cut t [10]).1) [32]).2.1 [64]).2.1.length ≤ 1000000 := by omega
        clear hc3
        generalize (Lib.cut (Lib.cut (verB (Lib.cut t [10]).1) [32]).2.1 [64]).1 = c at hone hcl ⊢
        generalize (Lib.cut (Lib.cut (verB (Lib.cut t [10]).1) [32]).2.1 [64]).2.1 = r at hone hrl ⊢
        have hll : (Lib.cut t [10]).1.length ≤ 1000000 := by omega
        clear hc1 hc2 hvl hv
        generalize (Lib.cut t [10]).1 = line at hone hll ⊢
        refine (implEncode_is (out.length : Int) (by omega) (by omega)).bind ?_
        rw [encB_eq (by omega) (by omega)]
        by_cases h5 : okRec c r = true
        · rw [if_pos h5]
          simp only [lit1, bs_app, bs_size, bs_toList]
          refine Ter.ifp trivial (Ter.ifp (by omega) ?_)
          by_cases h6 : lineB (out.length : Int) c r = line ++ [10]
          · rw [if_pos ⟨h5, h6⟩] at hone
            refine Ter.ifp h6 (Ter.ifp (by omega) (Ter.ifp (by rw [List.length_append, List.length_singleton]; omega) ?_))
            have e2 := congrArg List.length h6
            simp only [List.length_append, List.length_cons, List.length_nil] at e2
            have e3 := one_len (k := (out.length : Int)) (by omega) hone
            have e3' : t.length = l.length - a := by rw [← ht_]; simp
            have e4 : wrap64 ((a : Int) + wrap64 ((line.length : Int) + 1)) = ((a + (lineB (out.length : Int) c r).length : Nat) : Int) := by
              generalize (lineB (out.length : Int) c r).length = q at e2 e3
              rw [w64 (n := (line.length : Int) + 1) (by omega) (by omega), w64 (by omega) (by omega)]
              omega
            have e6 : a + (lineB (out.length : Int) c r).length ≤ l.length := by
              generalize (lineB (out.length : Int) c r).length = q at e2 e3 ⊢
              clear e4
              omega
            rw [e4]
            refine (ih (out ++ [(⟨bs c, bs r⟩ : S27)]) (en ++ [(a : Int)]) (a + (lineB (out.length : Int) c r).length) (by rw [List.length_append, List.length_singleton]; omega) (by rw [List.length_append, List.length_singleton]; omega) e6).eq ?_
            have e5 : ((out ++ [(⟨bs c, bs r⟩ : S27)]).length : Int) = (out.length : Int) + 1 := by simp
            rw [e5]
            simp only [recs, hone, List.map_cons, endsI_cons]
            rw [← List.drop_drop, ht_, List.append_assoc, List.append_assoc]
            rfl
          · rw [if_neg (fun e => h6 e.2)] at hone
            exact Ter.ifn h6 (hstop hone)
        · rw [if_neg (fun e => h5 e.1)] at hone
          rw [if_neg h5]
          exact Ter.ifn (by decide) (hstop hone)
      · have hone : one (out.length : Int) t = none := by unfold one; rw [if_neg hw]
        exact Ter.ifn hw (hstop hone)
  unfold impl_readRecords.f
  have := key 60 [] [] 0 rfl (by simp) (by omega)
  simpa using this
end Go.Proofs.YtnjambhlblngcaaDoor.P
namespace Go.Proofs.YtnjambhlblngcaaDoor.P
open Go.RowKit Go.Proofs.YtnjambhlblngcaaDoorW.PrintWords Go.Proofs.YtnjambhlblngcaaDoorW.PrintLast Go.Proofs.YtnjambhlblngcaaDoorW.PrintMore
set_option linter.unusedVariables false
set_option linter.unusedSimpArgs false

theorem index_is (x : Int) (l : List Int) (hl : l.length ≤ 1000) : ∃ r : Int, Ter (fun k => slices_Index_int_int.f k l x) r ∧ (0 ≤ r ↔ x ∈ l) := by
  have key := down_ (Q := fun i => ∃ r : Int, Ter (fun k => slices_Index_int_int.l0 k l x (l.length : Int) (i : Int)) r ∧ (0 ≤ r ↔ x ∈ l.drop i)) l.length
    ⟨-1, Ter.succ (by simp only [slices_Index_int_int.l0]; exact Ter.ifn (by omega) (Ter.ret _)), by rw [List.drop_length]; simp⟩
    (fun i hi ih => by
      have hd : l.drop i = l[i] :: l.drop (i + 1) := List.drop_eq_getElem_cons hi
      by_cases h : x = l[i]
      · refine ⟨(i : Int), Ter.succ ?_, ⟨fun _ => by rw [hd, ← h]; exact List.mem_cons_self .., fun _ => by omega⟩⟩
        simp only [slices_Index_int_int.l0]
        exact Ter.ifp (by omega) (Ter.ifp (by omega) (Ter.ifp (by omega) (Ter.ifp (by rw [rd_at hi]; exact h) (Ter.ret _))))
      · obtain ⟨r, h1, h2⟩ := ih
        refine ⟨r, Ter.succ ?_, by rw [hd, List.mem_cons]; constructor; (· intro e; exact .inr (h2.1 e)); (· rintro (e | e); exact absurd e h; exact h2.2 e)⟩
        simp only [slices_Index_int_int.l0]
        refine Ter.ifp (by omega) (Ter.ifp (by omega) (Ter.ifp (by omega) (Ter.ifn (by rw [rd_at hi]; exact h) ?_)))
        rw [w64s hi (by omega)]
        exact h1) 0 (by omega)
  obtain ⟨r, h1, h2⟩ := key
  exact ⟨r, h1, by simpa using h2⟩

theorem contains_is (x : Int) (l : List Int) (hl : l.length ≤ 1000) : Ter (fun k => slices_Contains_int_int.f k l x) (decide (x ∈ l)) := by
  obtain ⟨r, h1, h2⟩ := index_is x l hl
  unfold slices_Contains_int_int.f
  refine h1.bind ((Ter.ret _).eq ?_)
  rw [decide_eq_decide]
  exact h2

/-- A log is valid. -/
def validB (D P : Bs) (n : Int) : Bool := decide (D.length + P.length ≤ 30000) && (decide (lenR 0 (recs 60 0 (D ++ P)) = D.length + P.length) && (decide (lenR 0 (recs 60 0 D) = D.length) && decide (((recs 60 0 (D ++ P)).length : Int) = n)))

theorem Ter.some_ {α : Type} {a b : α} (h : a = b) : Ter (fun _ => some a) b := (Ter.ret _).eq h

theorem specValid_is {D P : Bs} (n : Int) (hD : D.length ≤ 1048576) (hP : P.length ≤ 1048576) : Ter (fun k => spec_l12Valid.f k (bs D) (bs P) n) (validB D P n) := by
  unfold spec_l12Valid.f validB
  simp only [bs_size, bs_app, w64 (n := (D.length : Int) + (P.length : Int)) (by omega) (by omega)]
  by_cases h1 : D.length + P.length ≤ 30000
  · refine Ter.ifn (by omega) (Ter.ifp (by omega) ?_)
    refine (l12Open_is (l := D ++ P) (by rw [List.length_append]; omega)).bind ((l12Open_is (l := D) (by omega)).bind ?_)
    simp only [h1, decide_true, Bool.true_and]
    by_cases h2 : lenR 0 (recs 60 0 (D ++ P)) = D.length + P.length
    · refine Ter.ifp (by rw [h2]; omega) ?_
      by_cases h3 : lenR 0 (recs 60 0 D) = D.length
      · refine Ter.ifp (by rw [h3]) (Ter.some_ ?_)
        simp only [h2, h3, decide_true, Bool.true_and, List.length_map]
        by_cases h4 : ((recs 60 0 (D ++ P)).length : Int) = n <;> simp [h4]
      · exact Ter.ifn (by omega) (Ter.some_ (by simp [h3]))
    · exact Ter.ifn (by omega) (Ter.some_ (by simp [h2]))
  · exact Ter.ifp (by omega) (Ter.some_ (by simp [h1]))

theorem endsI_len (l : List (Bs × Bs)) : (endsI 0 0 l).length = l.length + 1 := by unfold endsI; rw [List.length_map, endsR_len]

theorem endsI_last (l : List (Bs × Bs)) : rd (endsI 0 0 l) (l.length : Int) = (lenR 0 l : Int) := by
  unfold rd endsI
  rw [List.getD_eq_getElem?_getD, List.getElem?_map, Int.toNat_natCast, endsR_last]
  simp

theorem endsI_mem (l : List (Bs × Bs)) (n : Nat) : (n : Int) ∈ endsI 0 0 l ↔ n ∈ endsR 0 0 l := by
  unfold endsI
  rw [List.mem_map]
  constructor
  · rintro ⟨m, hm, e⟩
    obtain rfl : m = n := by omega
    exact hm
  · intro h
    exact ⟨n, h, rfl⟩

theorem implValid_is {D P : Bs} (n : Int) (hD : D.length ≤ 1048576) (hP : P.length ≤ 1048576) : Ter (fun k => impl_IsValidLog.f k (bs D) (bs P) n) (validB D P n) := by
  unfold impl_IsValidLog.f validB
  simp only [bs_size, bs_app, w64 (n := (D.length : Int) + (P.length : Int)) (by omega) (by omega)]
  by_cases h1 : D.length + P.length ≤ 30000
  · refine Ter.ifn (by omega) (Ter.ifp (by omega) ?_)
    refine (readRecords_is (l := D ++ P) (by rw [List.length_append]; omega)).bind ?_
    simp only [h1, decide_true, Bool.true_and, List.length_map, endsI_len, endsI_last]
    have hm := endsI_mem (recs 60 0 (D ++ P)) D.length
    have he := ends_iff 60 0 0 D P (by omega) (by omega)
    rw [Nat.zero_add] at he
    have hl := recs_len 60 0 (D ++ P)
    refine Ter.ifp (by omega) (Ter.ifp (by omega) ?_)
    by_cases h2 : lenR 0 (recs 60 0 (D ++ P)) = D.length + P.length
    · refine Ter.ifp (by rw [h2]; omega) ?_
      by_cases h4 : ((recs 60 0 (D ++ P)).length : Int) = n
      · refine Ter.ifp h4.symm ((contains_is _ _ (by rw [endsI_len]; omega)).bind (Ter.some_ ?_))
        simp only [h2, h4, decide_true, Bool.true_and, Bool.and_true, decide_eq_decide]
        exact hm.trans he
      · exact Ter.ifn (fun e => h4 e.symm) (Ter.some_ (by simp [h4]))
    · exact Ter.ifn (by omega) (Ter.some_ (by simp [h2]))
  · exact Ter.ifp (by omega) (Ter.some_ (by simp [h1]))

theorem szLog_is {c r : Bs} {a n : Int} (h0 : 0 ≤ a) (h1 : a ≤ 1048576) (hc : c.length ≤ maxLen) (hr : r.length ≤ maxLen) : ∃ t, laws_szLog.f (bs c) (bs r) n a = some t ∧ (t < 0 ∨ (0 ≤ t ∧ t ≤ a ∧ c.length ≤ 1048576 ∧ r.length ≤ 1048576)) := by
  rw [maxLen_] at hc hr
  unfold laws_szLog.f
  rw [bs_size, bs_size, w64 (n := a - (c.length : Int)) (by omega) (by omega)]
  by_cases h : a - (c.length : Int) < 0
  · rw [if_pos h]; exact ⟨_, rfl, .inl (by omega)⟩
  · rw [if_neg h, w64 (by omega) (by omega)]
    by_cases h2 : a - (c.length : Int) - (r.length : Int) < 0
    · rw [if_pos h2]; exact ⟨_, rfl, .inl (by omega)⟩
    · rw [if_neg h2]; exact ⟨_, rfl, .inr (by omega)⟩

theorem valid_len {D P : Bs} {n : Int} (h : validB D P n = true) : 0 ≤ n ∧ n ≤ 60 ∧ D.length + P.length ≤ 30000 := by
  unfold validB at h
  simp only [Bool.and_eq_true, decide_eq_true_eq] at h
  have := recs_len 60 0 (D ++ P)
  omega
end Go.Proofs.YtnjambhlblngcaaDoor.P
namespace Go.Proofs.YtnjambhlblngcaaDoor.P
open Go.RowKit Go.Proofs.YtnjambhlblngcaaDoorW.PrintWords Go.Proofs.YtnjambhlblngcaaDoorW.PrintLast Go.Proofs.YtnjambhlblngcaaDoorW.PrintMore
set_option linter.unusedVariables false
set_option linter.unusedSimpArgs false

theorem toLog_is (a b : ByteArray) (n : Int) : laws_toLog.f a b n = some (a, b, n) := rfl

theorem specRecords_is {D P : Bs} {n : Int} {b : Bool} (h : Ter (fun k => spec_l12Valid.f k (bs D) (bs P) n) b) (hv : b = true → D.length + P.length ≤ 30000) : Ter (fun k => spec_LogRecords.f k (bs D) (bs P) n) (bif b then (recs 60 0 (D ++ P)).map toRec else [], b) := by
  unfold spec_LogRecords.f
  refine h.bind ?_
  cases b with
  | true =>
    have hv := hv rfl
    refine Ter.ifp rfl (Ter.ifp (by rw [bs_size, bs_size]; omega) ?_)
    rw [bs_app]
    exact (l12Open_is (l := D ++ P) (by rw [List.length_append]; omega)).bind (Ter.some_ rfl) |> fun h => h
  | false => exact Ter.ifn (by decide) (Ter.ret _)

theorem implRecords_is {D P : Bs} {n : Int} {b : Bool} (h : Ter (fun k => impl_IsValidLog.f k (bs D) (bs P) n) b) (hv : b = true → D.length + P.length ≤ 30000) : Ter (fun k => impl_LogRecords.f k (bs D) (bs P) n) (bif b then (recs 60 0 (D ++ P)).map toRec else [], b) := by
  unfold impl_LogRecords.f
  refine h.bind ?_
  cases b with
  | true =>
    have hv := hv rfl
    refine Ter.ifp rfl (Ter.ifp (by rw [bs_size, bs_size]; omega) ?_)
    rw [bs_app]
    exact (readRecords_is (l := D ++ P) (by rw [List.length_append]; omega)).bind (Ter.some_ rfl)
  | false => exact Ter.ifn (by decide) (Ter.ret _)

theorem rdT_at {l : List S27} {i : Nat} (h : i < l.length) : rd_T27 l (i : Int) = l[i] := getD_at h

theorem eqRec_is (c r : ByteArray) : laws_eqLogRecord.f c r c r = some true := by
  unfold laws_eqLogRecord.f
  rw [if_pos rfl, if_pos rfl]

theorem eqRecs_is (l : List S27) (hl : l.length ≤ 1000) : Ter (fun k => laws_eqLogRecordS.f k l l) true := by
  unfold laws_eqLogRecordS.f
  refine Ter.ifp rfl ?_
  exact down_ (Q := fun i => Ter (fun k => laws_eqLogRecordS.l0 k l l (i : Int)) true) l.length
    (Ter.succ (by simp only [laws_eqLogRecordS.l0]; exact Ter.ifn (by omega) (Ter.ret _)))
    (fun i hi ih => by
      refine Ter.succ ?_
      simp only [laws_eqLogRecordS.l0]
      refine Ter.ifp (by omega) (Ter.ifp (by omega) (Ter.ifp (by omega) ?_))
      refine Ter.bind (Ter.const (eqRec_is _ _)) (Ter.ifp rfl ?_)
      rw [w64s hi (by omega)]
      exact ih) 0 (by omega)

theorem strOf_size (x : Int) : (strOfNums [x]).size = 1 := rfl

theorem markText_l (n : Nat) : ∀ (acc : ByteArray), acc.size + n ≤ 1000000 → ∃ t, Ter (fun k => laws_markText.l0 k (n : Int) acc) t := by
  induction n using Nat.strongRecOn with
  | _ n ih =>
    intro acc h
    by_cases h0 : n = 0
    · refine ⟨(⟨#[109]⟩ : ByteArray) ++ acc, Ter.succ ?_⟩
      simp only [laws_markText.l0]
      exact Ter.ifn (by omega) (Ter.ifp (by omega) (Ter.ret _))
    · have e : wrap64 (Int.tdiv (n : Int) 10) = ((n / 10 : Nat) : Int) := by
        rw [Int.tdiv_eq_ediv_of_nonneg (by omega), w64 (by omega) (by omega)]
        omega
      have hs : (strOfNums [(wrap64 (48 + (Int.tmod (n : Int) 10))) % 256] ++ acc).size = 1 + acc.size := by rw [ByteArray.size_append, strOf_size]
      obtain ⟨t, ht⟩ := ih (n / 10) (by omega) (strOfNums [(wrap64 (48 + (Int.tmod (n : Int) 10))) % 256] ++ acc) (by rw [hs]; omega)
      refine ⟨t, Ter.succ ?_⟩
      simp only [laws_markText.l0, Option.bind_some, e]
      exact Ter.ifp (by omega) (Ter.ifp (by rw [strOf_size]; omega) ht)

theorem markText_is : ∃ mt : Nat → ByteArray, ∀ n : Nat, 1 ≤ n → n ≤ 1000 → Ter (fun k => laws_markText.f k (n : Int)) (mt n) := by
  have h : ∀ n : Nat, ∃ t, 1 ≤ n → n ≤ 1000 → Ter (fun k => laws_markText.f k (n : Int)) t := by
    intro n
    by_cases hn : 1 ≤ n ∧ n ≤ 1000
    · obtain ⟨t, ht⟩ := markText_l n (⟨#[]⟩ : ByteArray) (by show 0 + n ≤ 1000000; omega)
      refine ⟨t, fun _ _ => ?_⟩
      unfold laws_markText.f
      exact Ter.ifn (by omega) ht
    · exact ⟨ByteArray.empty, fun h1 h2 => absurd ⟨h1, h2⟩ hn⟩
  exact ⟨fun n => Classical.choose (h n), fun n => Classical.choose_spec (h n)⟩

/-- The marked records. -/
def mrk (mt : Nat → ByteArray) (n : Nat) : List S27 := (List.range n).map fun i => ⟨mt (2 * i + 1), mt (2 * i + 2)⟩

theorem mrk_len (mt : Nat → ByteArray) (n : Nat) : (mrk mt n).length = n := by unfold mrk; simp

theorem mrk_succ (mt : Nat → ByteArray) (n : Nat) : mrk mt (n + 1) = mrk mt n ++ [⟨mt (2 * n + 1), mt (2 * n + 2)⟩] := by unfold mrk; rw [List.range_succ]; simp

theorem mrk_at (mt : Nat → ByteArray) {n i : Nat} (h : i < (mrk mt n).length) : (mrk mt n)[i] = ⟨mt (2 * i + 1), mt (2 * i + 2)⟩ := by simp only [mrk, List.getElem_map, List.getElem_range]

theorem set_mid {α : Type} (A B : List α) (x y : α) (i : Nat) (h : A.length = i) : (A ++ x :: B).set i y = A ++ y :: B := by
  subst h
  rw [List.set_append_right _ _ (Nat.le_refl _), Nat.sub_self]
  rfl

theorem mark_is {mt : Nat → ByteArray} (hm : ∀ n : Nat, 1 ≤ n → n ≤ 1000 → Ter (fun k => laws_markText.f k (n : Int)) (mt n)) (l : List S27) (hl : l.length ≤ 60) : Ter (fun k => laws_markLogRecordS.f k l 1) (((2 * l.length + 1 : Nat) : Int), mrk mt l.length) := by
  unfold laws_markLogRecordS.f
  have key := down_ (Q := fun i => Ter (fun k => laws_markLogRecordS.l0 k (mrk mt i ++ l.drop i) ((2 * i + 1 : Nat) : Int) (i : Int)) (((2 * l.length + 1 : Nat) : Int), mrk mt l.length)) l.length
    (Ter.succ (by
      simp only [laws_markLogRecordS.l0]
      have e : mrk mt l.length ++ l.drop l.length = mrk mt l.length := by rw [List.drop_length, List.append_nil]
      rw [e]
      exact Ter.ifn (by rw [mrk_len]; omega) (Ter.ret _)))
    (fun i hi ih => by
      refine Ter.succ ?_
      simp only [laws_markLogRecordS.l0]
      have hd : l.drop i = l[i] :: l.drop (i + 1) := List.drop_eq_getElem_cons hi
      have hlen : (mrk mt i ++ l.drop i).length = l.length := by rw [List.length_append, mrk_len, List.length_drop]; omega
      refine Ter.ifp (by rw [hlen]; omega) ((hm (2 * i + 1) (by omega) (by omega)).bind (Ter.ifp (by omega) ?_))
      refine Ter.bind (Ter.ret _) ?_
      have e1 : wrap64 (((2 * i + 1 : Nat) : Int) + 1) = ((2 * i + 2 : Nat) : Int) := by rw [w64 (by omega) (by omega)]; omega
      have e2 : wrap64 (((2 * i + 2 : Nat) : Int) + 1) = ((2 * (i + 1) + 1 : Nat) : Int) := by rw [w64 (by omega) (by omega)]; omega
      simp only [e1, e2]
      refine (hm (2 * i + 2) (by omega) (by omega)).bind ?_
      rw [w64s hi (by omega), Int.toNat_natCast]
      have e3 : ∀ a : S27, (mrk mt i ++ l.drop i).set i a = mrk mt i ++ a :: l.drop (i + 1) := fun a => by rw [hd, set_mid _ _ _ _ _ (mrk_len mt i)]
      have e4 : ∀ (a b : S27), (mrk mt i ++ a :: l.drop (i + 1)).set i b = mrk mt i ++ b :: l.drop (i + 1) := fun a b => set_mid _ _ _ _ _ (mrk_len mt i)
      have e5 : ∀ a : S27, rd_T27 (mrk mt i ++ a :: l.drop (i + 1)) (i : Int) = a := fun a => by
        rw [rdT_at (by rw [List.length_append, mrk_len, List.length_cons]; omega), List.getElem_append_right (by rw [mrk_len]; omega)]
        simp [mrk_len]
      rw [e3, e4, e5]
      refine Ter.congr (fun k => ?_) ih
      rw [mrk_succ, List.append_assoc]
      rfl) 0 (by omega)
  simpa [mrk] using key

theorem held_is {mt : Nat → ByteArray} (hm : ∀ n : Nat, 1 ≤ n → n ≤ 1000 → Ter (fun k => laws_markText.f k (n : Int)) (mt n)) (n : Nat) (hn : n ≤ 60) : Ter (fun k => laws_heldLogRecordS.f k (mrk mt n) 1) ((2 * n + 1 : Nat) : Int) := by
  unfold laws_heldLogRecordS.f
  have key := down_ (Q := fun i => Ter (fun k => laws_heldLogRecordS.l0 k (mrk mt n) ((2 * i + 1 : Nat) : Int) (i : Int)) ((2 * n + 1 : Nat) : Int)) n
    (Ter.succ (by
      simp only [laws_heldLogRecordS.l0]
      exact Ter.ifn (by rw [mrk_len]; omega) (Ter.ret _)))
    (fun i hi ih => by
      refine Ter.succ ?_
      simp only [laws_heldLogRecordS.l0]
      have hi' : i < (mrk mt n).length := by rw [mrk_len]; exact hi
      have e1 : wrap64 (((2 * i + 1 : Nat) : Int) + 1) = ((2 * i + 2 : Nat) : Int) := by rw [w64 (by omega) (by omega)]; omega
      have e2 : wrap64 (((2 * i + 2 : Nat) : Int) + 1) = ((2 * (i + 1) + 1 : Nat) : Int) := by rw [w64 (by omega) (by omega)]; omega
      have e3 := (rdT_at hi').trans (mrk_at mt hi')
      simp only [e1, e2, e3]
      refine Ter.ifp (by rw [mrk_len]; omega) (Ter.ifp (by omega) ((hm (2 * i + 1) (by omega) (by omega)).bind (Ter.ifp rfl ((hm (2 * i + 2) (by omega) (by omega)).bind (Ter.ifp rfl ?_)))))
      rw [w64s hi (by omega)]
      exact ih) 0 (by omega)
  exact key

theorem FnExactLogRecords.pure (a0_0 : ByteArray) (a0_1 : ByteArray) (a0_2 : Int) (W1 : a0_0.size ≤ maxLen) (W2 : a0_1.size ≤ maxLen) (W3 : (Lit.int .i64 a0_2).wf = true) : ∃ k, laws_FnExactLogRecords.f k a0_0 a0_1 a0_2 = some true := by
  obtain ⟨D, rfl⟩ : ∃ l, a0_0 = bs l := ⟨_, bs_of _⟩
  obtain ⟨P, rfl⟩ : ∃ l, a0_1 = bs l := ⟨_, bs_of _⟩
  rw [bs_size] at W1 W2
  have key : Ter (fun k => laws_FnExactLogRecords.f k (bs D) (bs P) a0_2) true := by
    obtain ⟨t, ht, h⟩ := szLog_is (c := D) (r := P) (a := 1048576) (n := a0_2) (by omega) (by omega) W1 W2
    unfold laws_FnExactLogRecords.f
    refine Ter.bind (Ter.const ht) ?_
    rcases h with h | ⟨h1, h2, h3, h4⟩
    · exact Ter.ifp h (Ter.ret _)
    · refine Ter.ifn (by omega) ?_
      have hv : validB D P a0_2 = true → D.length + P.length ≤ 30000 := fun h => (valid_len h).2.2
      have hs := specRecords_is (specValid_is a0_2 h3 h4) hv
      have hi := implRecords_is (implValid_is a0_2 h3 h4) hv
      clear hv
      generalize validB D P a0_2 = b at hs hi
      have hl : (bif b then (recs 60 0 (D ++ P)).map toRec else []).length ≤ 60 := by
        cases b with
        | true => show ((recs 60 0 (D ++ P)).map toRec).length ≤ 60; rw [List.length_map]; exact recs_len _ _ _
        | false => exact Nat.zero_le _
      generalize (bif b then (recs 60 0 (D ++ P)).map toRec else []) = R at hs hi hl
      obtain ⟨mt, hm⟩ := markText_is
      have hmk := mark_is hm R hl
      have hhd := held_is hm R.length hl
      have heq := eqRecs_is R (by omega)
      generalize mrk mt R.length = R2 at hmk hhd
      have hj1 : Ter (fun k => laws_FnExactLogRecords.j1 k R2 ((2 * R.length + 1 : Nat) : Int) false) true := by
        refine Ter.succ ?_
        simp only [laws_FnExactLogRecords.j1]
        exact Ter.ifn (by decide) (Ter.bind hhd (Ter.ifn (by omega) (Ter.ifp rfl (Ter.ret _))))
      have hj0 : Ter (fun k => laws_FnExactLogRecords.j0 k R b R false (bs D) (bs P) a0_2) true := by
        refine Ter.succ ?_
        simp only [laws_FnExactLogRecords.j0]
        refine Ter.ifn (by decide) (Ter.bind hmk (Ter.bind hhd (Ter.ifn (by omega) (Ter.ifp rfl (Ter.bind (Ter.const (toLog_is _ _ _)) (Ter.bind hi (Ter.bind heq (Ter.ifp rfl ?_))))))))
        simpa using hj1
      refine Ter.bind (Ter.const (toLog_is _ _ _)) (Ter.bind hs (Ter.bind (Ter.const (toLog_is _ _ _)) (Ter.bind hi (Ter.bind heq (Ter.ifp rfl ?_)))))
      simpa using hj0
  obtain ⟨K, h⟩ := key
  exact ⟨K, h K (Nat.le_refl _)⟩
end Go.Proofs.YtnjambhlblngcaaDoor.P
namespace Go.Proofs.YtnjambhlblngcaaDoor.fnExactLogRecords
open Go.ChangeShapes Go.WideShapes Go.ChangeAt Go.RowKit
open Go.ChangeMaps (open_string shut_string)
open Go.Proofs.YtnjambhlblngcaaDoor.P Go.Proofs.YtnjambhlblngcaaDoor.laidRow Go.Proofs.YtnjambhlblngcaaDoorW.PrintWords Go.Proofs.YtnjambhlblngcaaDoorW.PrintLast Go.Proofs.YtnjambhlblngcaaDoorW.PrintMore
set_option linter.unusedVariables false

theorem call (a0_0 : ByteArray) (a0_1 : ByteArray) (a0_2 : Int) (w : World) (ht : TabOK w) (W_0 : a0_0.size ≤ maxLen) (W_1 : a0_1.size ≤ maxLen) (W_2 : (Lit.int .i64 a0_2).wf = true) :
    Calls Tryd.prog 9 #[.agg #[.string a0_0, .string a0_1, .int .i64 a0_2]] w fun e w' => e = .returned (.bool true) ∧ Below w.heap.size w w' := by
  obtain ⟨k, hk⟩ := P.FnExactLogRecords.pure a0_0 a0_1 a0_2 W_0 W_1 W_2
  exact P.laws_FnExactLogRecords.calls k a0_0 a0_1 a0_2 true w ht hk

set_option maxRecDepth 100000 in
theorem contract (H : Type) (enc : TypeId × Value → H) (W : World) (base : Nat) (args : Array Value) (ds gs : List (DataW H)) (before : List MemPlace)
    (hval : ∀ (j : Nat) t v, Tryd.f9.params[j]? = some t → args[j]? = some v → Value.okWide Tryd.prog W .any base t v)
    (hW : DataW.Whole enc Tryd.prog Tryd.f9.params.toList Rows.fnExactLogRecordsSpec.vars false W args.toList ds gs before) (hL : laidMetH Tryd.prog Rows.fnExactLogRecordsRow.laid W) (hsh : W.ShapedOpen Tryd.prog) :
    Calls Tryd.prog 9 args W fun e W' => ∃ v, e = .returned v ∧ Rows.fnExactLogRecordsSpec.post enc Tryd.prog Tryd.f9 false true false false W args v W' := by
  have hW' := hW
  obtain ⟨p, q, hA0, hV, rfl, hfz, hnd⟩ := hW
  have hA : DataW.TrodAll enc Tryd.prog W 0 (fun _ => true) true Tryd.f9.params.toList args.toList ds p := hA0
  rw [Tryd.params9] at hA hval
  obtain ⟨v0, vs0, d0, ds0, p0, q0, hargs, rfl, rfl, h0, r0⟩ := trodAll_cons hA
  obtain ⟨rfl, rfl, rfl⟩ := trodAll_nil r0
  obtain rfl : args = #[v0] := by cases args; simp_all
  obtain ⟨rfl, rfl⟩ := trodVars_none hV
  obtain ⟨cs0, rfl, _⟩ := okWide_struct Tryd.underlying36 (hval 0 36 v0 rfl rfl)
  have k0 := h0
  have lt0 : ∀ x ∈ p0, x.block < W.heap.size := by obtain ⟨m, hm⟩ := k0; exact DataW.trod_lt m _ _ _ hm
  obtain ⟨a0_0, a0_1, a0_2, e0, W0_0, W0_1, W0_2, _⟩ : ∃ (a0_0 : ByteArray) (a0_1 : ByteArray) (a0_2 : Int), cs0 = #[.string a0_0, .string a0_1, .int .i64 a0_2] ∧ a0_0.size ≤ maxLen ∧ a0_1.size ≤ maxLen ∧ (Lit.int .i64 a0_2).wf = true ∧ True := by
    obtain ⟨fuel, hf⟩ := h0
    obtain ⟨a0_0, a0_1, a0_2, e_, r_⟩ := P.cells_36 hf
    refine ⟨a0_0, a0_1, a0_2, ?_, r_⟩
    exact Array.toList_inj.1 e_
  subst e0
  clear hA0 hval
  refine (call a0_0 a0_1 a0_2 W  (tabOK hL hsh) W0_0 W0_1 W0_2).mono fun e W' ⟨he, bel⟩ => ?_
  subst he
  exact ⟨_, rfl, _, _, _, [], _, [], hW', trodAll_mk1 (shut_bool Tryd.underlying4 _), (trodAll_cons_mk (Below.trod laidOut (by kernel_rfl) (of_decide_eq_true (by kernel_rfl)) k0 bel lt0) trodAll_mk0), rfl, bel.frame _, fun h => by cases h⟩

set_option maxRecDepth 100000 in
theorem laid_met (os : Os) : laidMet Tryd.prog Rows.fnExactLogRecordsRow.laid ((laidWorld os).forCall (fun _ _ => 0) ⟨#[], #[.agg #[.string ByteArray.empty, .string ByteArray.empty, .int .i64 0]], []⟩).memory :=
  laidMet_of_run' 8 (by kernel_rfl) (by kernel_rfl)

set_option maxRecDepth 100000 in
theorem reads (os : Os) {H : Type} (enc : TypeId × Value → H) : ∃ places, DataW.whole enc Tryd.prog ((laidWorld os).forCall (fun _ _ => 0) ⟨#[], #[.agg #[.string ByteArray.empty, .string ByteArray.empty, .int .i64 0]], []⟩).memory Tryd.f9.params.toList Rows.fnExactLogRecordsSpec.vars false (#[.agg #[.string ByteArray.empty, .string ByteArray.empty, .int .i64 0]] : Array Value).toList 8 = some ([.agg [.lit (.string []), .lit (.string []), .lit (.int .i64 0)]], [], places) :=
  ⟨[], by kernel_rfl⟩

set_option maxRecDepth 100000 in
set_option maxHeartbeats 2000000 in
theorem lifted (os : Os) (started : os.Started) (H : Type) (enc : TypeId × Value → H) (F : Stop.Interp) :
    ReturnsInHanded {} Tryd.checked os 9 .any ((OpenSpec.ofChange Rows.fnExactLogRecordsSpec).preRow enc Tryd.prog Tryd.f9 Rows.fnExactLogRecordsRow.domain false Rows.fnExactLogRecordsRow.laid) (((OpenSpec.ofChange Rows.fnExactLogRecordsSpec).at F).post enc Tryd.prog Tryd.f9 false true false false) := by
  obtain ⟨places, hx⟩ := reads os enc
  refine returnsInHanded_of_row (C := Tryd.checked) (s := OpenSpec.ofChange Rows.fnExactLogRecordsSpec) own started (by kernel_rfl) Tryd.func9
    (witness_row_at (enc := enc) (C := Tryd.checked) false (laidWorld os) #[.agg #[.string ByteArray.empty, .string ByteArray.empty, .int .i64 0]] rfl (by kernel_rfl) (by kernel_rfl) (by kernel_rfl)
      (OpenSpec.preRow_of_cond 8 hx (by kernel_rfl) (fun k hk => by cases hk) (by kernel_rfl) (laid_met os))) ?_
  intro W base args ds gs before hval hW _ _ _ hL hsh _
  exact contract H enc W base args ds gs before hval hW hL hsh

set_option maxRecDepth 100000 in
theorem cl1 : Tryd.pinned.checked.prog.funcNamed Rows.fnExactLogRecordsRow.func = some 9 := by kernel_rfl

theorem cl2 : joinedFacts Tryd.pinned.checked.prog 9 Tryd.f9 Rows.fnExactLogRecordsSpec Rows.fnExactLogRecordsRow = true := by kernel_rfl

theorem cl3 : Tryd.f9.isInstance Tryd.pinned.checked.prog Rows.fnExactLogRecordsRow.origin Rows.fnExactLogRecordsRow.targs := of_decide_eq_true (by kernel_rfl)

theorem cl4 : Tryd.f9.isWrapper Tryd.pinned.checked.prog Rows.fnExactLogRecordsRow.wrapper Rows.fnExactLogRecordsRow.mainSum := (by unfold Func.isWrapper; first | (rw [if_pos (by decide +kernel)]; kernel_rfl) | (rw [if_neg (by decide +kernel)]; exact ⟨rfl, rfl⟩))

theorem said : Rows.FnExactLogRecordsSaid :=
  OpenClaim.holds_of_cond 9 Tryd.f9 rfl rfl rfl rfl rfl rfl rfl ⟨rfl, rfl, rfl, rfl, rfl⟩ rfl rfl rfl rfl rfl cl1 Tryd.func9 cl2 cl3 cl4
    (fun os started H enc _ F => by rw [OpenClaim.pre_eq_preRow]; exact lifted os started H enc F)

theorem plain (f : FuncId) (fn : Func) (hf : Tryd.pinned.checked.prog.funcNamed Rows.fnExactLogRecordsRow.func = some f) (hfn : Tryd.pinned.checked.prog.funcs[f]? = some fn) :
    false = Tryd.pinned.checked.prog.looks [] ∧ ∀ (j : Nat) t, fn.params[j]? = some t → Tryd.pinned.checked.prog.wantsStandIn t = false := by
  obtain rfl : f = 9 := Option.some.inj (cl1.symm.trans hf) |>.symm
  obtain rfl : fn = Tryd.f9 := (Option.some.inj (Tryd.func9.symm.trans hfn)).symm
  refine ⟨by kernel_rfl, fun j t ht => ?_⟩
  rw [Tryd.params9] at ht
  have hm := Array.mem_of_getElem? ht
  obtain rfl : t = 36 := by simpa using hm
  exact (show Tryd.prog.wantsStandIn 36 = false by kernel_rfl)

theorem card : Rows.FnExactLogRecordsCardSaid :=
  Claim7.holds_tied_plain_at .later [] _ _ _ _ said (fun _ h => by cases h) (by kernel_rfl) (fun _ h => by cases h) fnExactLogRecords_row_tie rfl ⟨rfl, rfl⟩ (by kernel_rfl) rfl plain (by kernel_rfl)
#print axioms card
end Go.Proofs.YtnjambhlblngcaaDoor.fnExactLogRecords
namespace Go.Proofs.YtnjambhlblngcaaDoor

/-- The card, under a short name, for the claim. -/
theorem fnExactLogRecords_holds : Rows.FnExactLogRecordsCardSaid := fnExactLogRecords.card
end Go.Proofs.YtnjambhlblngcaaDoor
