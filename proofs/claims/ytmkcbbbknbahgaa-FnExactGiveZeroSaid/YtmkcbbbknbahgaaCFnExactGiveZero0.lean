/- Part 0 of the proof of FnExactGiveZero: contracts of functions that the law reaches. Conditions: none. -/
import Derived.Test.YtmkcbbbknbahgaaProg
import Derived.Below
import Derived.Deep.Draws
import Derived.Deep.AppendLies
import Derived.Maps.AppendAt
import Derived.OwnWalk
import Derived.Laws.BytesArg
import Derived.Laws.MakeOwn
import Derived.Laws.OwnMore
import Derived.Deep.OwnRows
import Derived.Tactics
import Derived.Lib.ConvBytes
import Derived.Laws.Slices
import Derived.WalkKit
import Derived.KernelRfl
import Derived.RowKit3
import Derived.Deep.LoopGhost
import Derived.Deep.QuietTactic
import Derived.BigQuiet
import Derived.WideLaws
import Derived.Deep.DeepCutAuto
import Derived.Deep.CutBlock
import Derived.Deep.RegionHeld3
import Derived.Laws.Rows
import Derived.Lib.AppendStr
import Derived.ArgAppend
import Derived.Laws.IdiomCopy
import Derived.OrdersHeld
import Derived.Laws.BitsLemmas
import Derived.RowKit
import Derived.Test.YtmkcbbbknbahgaaVFnExactGiveZeroWords
import Derived.Test.YtmkcbbbknbahgaaVFnExactGiveZeroLast
import Derived.Test.YtmkcbbbknbahgaaVFnExactGiveZeroTab
import Derived.Test.YtmkcbbbknbahgaaVFnExactGiveZeroApart
import Derived.Test.YtmkcbbbknbahgaaVFnExactGiveZeroFoot
import Derived.Test.YtmkcbbbknbahgaaVFnExactGiveZeroKept
import Derived.Test.YtmkcbbbknbahgaaVFnExactGiveZeroShare
import Derived.Test.YtmkcbbbknbahgaaVFnExactGiveZeroN
import Derived.Laws.StructEq
import Derived.Test.YtmkcbbbknbahgaaVFnExactGiveZeroRepsOne
import Derived.Test.YtmkcbbbknbahgaaVFnExactGiveZeroInv
import Derived.Test.YtmkcbbbknbahgaaVFnExactGiveZeroInvWords
import Derived.Test.YtmkcbbbknbahgaaVFnExactGiveZeroGuard
import Derived.Test.YtmkcbbbknbahgaaVFnExactGiveZeroMore
import Derived.Deep.Slices
import Derived.ProofKit
import Derived.DataElems
import Derived.Lib.SliceRun
import Derived.Shelf.Abstract
namespace Go.Proofs.Ytmkcbbbknbahgaa.P
open Go.RowKit Go.Proofs.YtmkcbbbknbahgaaW.PrintWords Go.Proofs.YtmkcbbbknbahgaaW.PrintLast Go.Proofs.YtmkcbbbknbahgaaW.PrintMore
attribute [local go_sem] max2_int min2_int max_two min_two max_three min_three max_four min_four   -- for this text's walks alone
set_option linter.unusedVariables false
set_option linter.unusedSimpArgs false

def errW : Option Int → Value
  | none => .nilIface
  | some c => .iface 0 (.int .i64 c)

theorem errW_none : errW none = .nilIface := rfl

theorem errW_some (c : Int) : errW (some c) = .iface 0 (.int .i64 c) := rfl

theorem info3 : (Try.prog.info? 3).map (fun i => (i.zero, i.size, i.bytes)) = some (some (.int .i64 0), 1, 8) := by kernel_rfl

theorem info5 : (Try.prog.info? 5).map (fun i => (i.zero, i.size, i.bytes)) = some (some (.int .u8 0), 1, 1) := by kernel_rfl

theorem info29 : (Try.prog.info? 29).map (fun i => (i.zero, i.size, i.bytes)) = some (some (.slice none 0 0), 1, 24) := by kernel_rfl

theorem info32 : (Try.prog.info? 32).map (fun i => (i.zero, i.size, i.bytes)) = some (some (.agg #[(.int .i64 0), (.int .i64 0), (.int .i64 0), (.int .i64 0)]), 4, 32) := by kernel_rfl

def rd_L1 (xs : List (List Int)) (i : Int) : (List Int) := xs.getD i.toNat ([] : List Int)

theorem at_L1 {w : World} {A : Option Addr} {n : Nat} {xs : List (List Int)} (h : Kd.C (Kd.slice 5 (Kd.int .u8)) w A n xs) (i : Int) (h0 : 0 ≤ i) (h1 : i < n) : ∃ ad A0 c0, A = some ad ∧ w.cell? (ad.add i.toNat) = some (.slice A0 (rd_L1 xs i).length c0) ∧ (rd_L1 xs i).length ≤ c0 ∧ (Kd.int .u8).C w A0 (rd_L1 xs i).length (rd_L1 xs i) := by
  obtain ⟨ad, c, e, _, hK, hc0⟩ := Kd.C_get h ([] : List Int) i h0 h1
  have hc : ∀ j u, c[j]? = some u → w.cell? (ad.add (i.toNat * 1 + j)) = some u := hc0
  obtain ⟨A0, c0, rfl, l0, g0⟩ := hK
  exact ⟨ad, A0, c0, e, by have hq := hc 0 _ rfl; rwa [Nat.mul_one, Nat.add_zero] at hq, l0, g0⟩

structure S32 where
  f0 : Int
  f1 : Int
  f2 : Int
  f3 : Int

def z32 : S32 := ⟨(0 : Int), (0 : Int), (0 : Int), (0 : Int)⟩

def k32 : Kd S32 := Kd.iso (Kd.pair (Kd.int .i64) (Kd.pair (Kd.int .i64) (Kd.pair (Kd.int .i64) (Kd.int .i64)))) (fun x : S32 => (x.f0, x.f1, x.f2, x.f3))

theorem k32_open {w : World} {x : S32} {cs : List Value} (h : k32.K w x cs) : cs = [.int .i64 x.f0, .int .i64 x.f1, .int .i64 x.f2, .int .i64 x.f3] := by
  obtain ⟨_, _, rfl, rfl, ⟨_, _, rfl, rfl, ⟨_, _, rfl, rfl, rfl⟩⟩⟩ := h
  exact rfl

theorem k32_mkM (w : World) (base : Nat) (ok : Nat → Prop) (x : S32)  : k32.M w base ok x [.int .i64 x.f0, .int .i64 x.f1, .int .i64 x.f2, .int .i64 x.f3] := ⟨[.int .i64 x.f0], [.int .i64 x.f1, .int .i64 x.f2, .int .i64 x.f3], rfl, rfl, ⟨[.int .i64 x.f1], [.int .i64 x.f2, .int .i64 x.f3], rfl, rfl, ⟨[.int .i64 x.f2], [.int .i64 x.f3], rfl, rfl, rfl⟩⟩⟩

def rd_T32 (xs : List S32) (i : Int) : S32 := xs.getD i.toNat z32

theorem at_T32 {w : World} {A : Option Addr} {n : Nat} {xs : List S32} (h : Kd.C k32 w A n xs) (i : Int) (h0 : 0 ≤ i) (h1 : i < n) : ∃ ad , A = some ad ∧ w.cell? (ad.add (i.toNat * 4)) = some (.int .i64 (rd_T32 xs i).f0) ∧ w.cell? ⟨(ad.add (i.toNat * 4)).block, (ad.add (i.toNat * 4)).off + 1, none⟩ = some (.int .i64 (rd_T32 xs i).f1) ∧ w.cell? ⟨(ad.add (i.toNat * 4)).block, (ad.add (i.toNat * 4)).off + 2, none⟩ = some (.int .i64 (rd_T32 xs i).f2) ∧ w.cell? ⟨(ad.add (i.toNat * 4)).block, (ad.add (i.toNat * 4)).off + 3, none⟩ = some (.int .i64 (rd_T32 xs i).f3) := by
  obtain ⟨ad, c, e, _, hK, hc0⟩ := Kd.C_get h z32 i h0 h1
  have hc : ∀ j u, c[j]? = some u → w.cell? (ad.add (i.toNat * 4 + j)) = some u := hc0
  obtain rfl := k32_open hK
  exact ⟨ad, e, hc 0 _ rfl, by rw [← add_field _ _ 1 (by omega)]; exact hc 1 _ rfl, by rw [← add_field _ _ 2 (by omega)]; exact hc 2 _ rfl, by rw [← add_field _ _ 3 (by omega)]; exact hc 3 _ rfl⟩

structure S74 where
  f0 : Int
  f1 : Int

def z74 : S74 := ⟨(0 : Int), (0 : Int)⟩

def k74 : Kd S74 := Kd.iso (Kd.pair (Kd.int .i64) (Kd.int .i64)) (fun x : S74 => (x.f0, x.f1))

theorem k74_open {w : World} {x : S74} {cs : List Value} (h : k74.K w x cs) : cs = [.int .i64 x.f0, .int .i64 x.f1] := by
  obtain ⟨_, _, rfl, rfl, rfl⟩ := h
  exact rfl

theorem k74_mkM (w : World) (base : Nat) (ok : Nat → Prop) (x : S74)  : k74.M w base ok x [.int .i64 x.f0, .int .i64 x.f1] := ⟨[.int .i64 x.f0], [.int .i64 x.f1], rfl, rfl, rfl⟩

def rd_T74 (xs : List S74) (i : Int) : S74 := xs.getD i.toNat z74

theorem at_T74 {w : World} {A : Option Addr} {n : Nat} {xs : List S74} (h : Kd.C k74 w A n xs) (i : Int) (h0 : 0 ≤ i) (h1 : i < n) : ∃ ad , A = some ad ∧ w.cell? (ad.add (i.toNat * 2)) = some (.int .i64 (rd_T74 xs i).f0) ∧ w.cell? ⟨(ad.add (i.toNat * 2)).block, (ad.add (i.toNat * 2)).off + 1, none⟩ = some (.int .i64 (rd_T74 xs i).f1) := by
  obtain ⟨ad, c, e, _, hK, hc0⟩ := Kd.C_get h z74 i h0 h1
  have hc : ∀ j u, c[j]? = some u → w.cell? (ad.add (i.toNat * 2 + j)) = some u := hc0
  obtain rfl := k74_open hK
  exact ⟨ad, e, hc 0 _ rfl, by rw [← add_field _ _ 1 (by omega)]; exact hc 1 _ rfl⟩
section
variable {α : Type}

theorem bset_ {g i : Nat} {w w1 : World} {x : Value} (h : Below w.heap.size w w1) (hg : Aside0 (w.heap.size ≤ g)) : Below w.heap.size w (w1.setCell ⟨g, i, none⟩ x) := below_set h hg.out

theorem gE_ {b g : Nat} {w0 w1 w : World} (k : Aside0 (Below b w0 w1)) (hg : g = w.heap.size) (h : Below b w0 w1 → Below w0.heap.size w0 w := by intro HB0_; repeat (first | (with_reducible first | exact HB0_ | apply below_alloc | apply pw_below_drewN | apply below_drew1 | refine bset_ ?_ (by assumption)) | exact HB0_)) : Aside0 (w0.heap.size ≤ g) := ⟨hg ▸ below_size (h k.out)⟩

theorem sL_ {d : Kd α} {e b : Nat} {w0 wk w w1 : World} {ok : Nat → Prop} {v : Value} {x : List α} (ho : Kd.S d e w1 w.heap.size ok v x) (k : Aside0 (Below b w0 wk)) (h : Below b w0 wk → Below w0.heap.size w0 w := by intro HB0_; repeat (first | (with_reducible first | exact HB0_ | apply below_alloc | apply pw_below_drewN | apply below_drew1 | refine bset_ ?_ (by assumption)) | exact HB0_)) : Kd.S d e w1 w0.heap.size ok v x := Kd.S_lower ho (below_size (h k.out))

theorem rL_ {d : Kd α} {e b : Nat} {w0 wk w w1 : World} {ok : Nat → Prop} {v : Value} {x : List α} (ho : Kd.R d e w1 w.heap.size ok v x) (k : Aside0 (Below b w0 wk)) (h : Below b w0 wk → Below w0.heap.size w0 w := by intro HB0_; repeat (first | (with_reducible first | exact HB0_ | apply below_alloc | apply pw_below_drewN | apply below_drew1 | refine bset_ ?_ (by assumption)) | exact HB0_)) : Kd.R d e w1 w0.heap.size ok v x := Kd.R_lower ho (below_size (h k.out))

theorem bK_ {p q : Prop} (k : Aside0 q) (h : q → p := by intro BK0_; (with_reducible repeat (first | refine blk_drewN ?_ _ | refine blk_drew ?_ | refine blk_alloc ?_ _)); exact BK0_) : p := h k.out

theorem rK_ {p q : Prop} (k : Aside0 q) (h : q → p := by intro BK0_; (with_reducible repeat (first | apply Kd.R_alloc | apply Kd.R_drewN | apply Kd.R_drew)); exact BK0_) : p := h k.out

theorem sK_ {p q : Prop} (k : Aside0 q) (h : q → p := by intro BK0_; (with_reducible repeat (first | apply Kd.S_alloc | apply Kd.S_drewN | apply Kd.S_drew)); exact BK0_) : p := h k.out

theorem bB_ {w0 w w1 : World} {g : Nat} {o : Obj} (k : Aside0 (w0.heap[g]? = some o)) (hb : Below w.heap.size w w1) (h : w0.heap[g]? = some o → w.heap[g]? = some o := by intro BK0_; (with_reducible repeat (first | refine blk_drewN ?_ _ | refine blk_drew ?_ | refine blk_alloc ?_ _)); exact BK0_) : Aside0 (w1.heap[g]? = some o) := ⟨blk_below (h k.out) hb⟩

theorem nB_ {w0 w : World} {g g' : Nat} {o : Obj} (k : Aside0 (w0.heap[g]? = some o)) (hg : g' = w.heap.size) (h : w0.heap[g]? = some o → w.heap[g]? = some o := by intro BK0_; (with_reducible repeat (first | refine blk_drewN ?_ _ | refine blk_drew ?_ | refine blk_alloc ?_ _)); exact BK0_) : Aside0 (g ≠ g') := ⟨hg ▸ Nat.ne_of_lt (blk_lt (h k.out))⟩

theorem nA_ {w0 w : World} {g g' : Nat} {o : Obj} (k : Aside0 (w0.heap[g]? = some o)) (hg : g' = w.heap.size) (h : w0.heap[g]? = some o → w.heap[g]? = some o := by intro BK0_; (with_reducible repeat (first | refine blk_drewN ?_ _ | refine blk_drew ?_ | refine blk_alloc ?_ _)); exact BK0_) : Aside0 (g' ≠ g) := ⟨hg ▸ Nat.ne_of_gt (blk_lt (h k.out))⟩

theorem ba_ : type_of% @below_alloc := @below_alloc

theorem bn_ : type_of% @pw_below_drewN := @pw_below_drewN

theorem bd_ : type_of% @below_drew1 := @below_drew1

theorem kb1_ : type_of% @blk_drewN := @blk_drewN

theorem kb2_ : type_of% @blk_drew := @blk_drew

theorem kb3_ : type_of% @blk_alloc := @blk_alloc

theorem kr1_ : type_of% @Kd.R_alloc := @Kd.R_alloc

theorem kr2_ : type_of% @Kd.R_drewN := @Kd.R_drewN

theorem kr3_ : type_of% @Kd.R_drew := @Kd.R_drew

theorem ks1_ : type_of% @Kd.S_alloc := @Kd.S_alloc

theorem ks2_ : type_of% @Kd.S_drewN := @Kd.S_drewN

theorem ks3_ : type_of% @Kd.S_drew := @Kd.S_drew

theorem gs_ {p : Prop} (h : p := by first | (go_simp; done) | (go_simp; rfl)) : p := h

theorem ar_ {p : Prop} (h : p := by (try simp only [List.map_toArray, List.map_cons, List.map_nil]); first | done | rfl | (simp only [List.length_drop, List.length_take]; rfl)) : p := h

theorem as_ {p : Prop} (h : p := by first | (with_reducible assumption) | assumption) : p := h

theorem er_ {p : Prop} (h : p := by first | rfl | (simp [errW_none, errW_some] <;> rfl) | (simp [*, errW_none, errW_some] <;> rfl)) : p := h

theorem far_ {w : World} {g b : Nat} {t : TypeId} {cs : Array Value} (h : w.heap[g]? = some (.cells cs t (0, 0))) (hp : Aside0 (g ≠ b)) (i : Nat) (u : Value) : (w.setCell ⟨b, i, none⟩ u).heap[g]? = some (.cells cs t (0, 0)) := blk_far h hp.out u

theorem zc1_ {w : World} {g : Nat} {t : TypeId} {a0 : Value} (k : Aside0 (w.heap[g]? = some (.cells #[a0] t (0, 0)))) : w.cell? ⟨g, 0, none⟩ = some a0 ∧ w.frozen? ⟨g, 0, none⟩ = false := ⟨(blk_cell k.out 0).trans rfl, blk_frozen k.out 0⟩

theorem put1_ {w : World} {g : Nat} {t : TypeId} {a0 u0 : Value} (h : w.heap[g]? = some (.cells #[a0] t (0, 0))) : (w.setCell ⟨g, 0, none⟩ u0).heap[g]? = some (.cells #[u0] t (0, 0)) := blk_put (cs' := #[u0]) (h) 0 u0 rfl

theorem rf1_ {d : Kd α} {e b : Nat} {w : World} {ok : Nat → Prop} {v : Value} {x : List α} {u0 : Value} (g : Nat) (h : Kd.R d e w b ok v x) (hk : ∀ k, ok k → k ≠ g) : Kd.R d e (w.setCell ⟨g, 0, none⟩ u0) b ok v x := Kd.R_far (p := ⟨g, 0, none⟩) (h) hk u0

theorem sf1_ {d : Kd α} {e b : Nat} {w : World} {ok : Nat → Prop} {v : Value} {x : List α} {u0 : Value} (g : Nat) (h : Kd.S d e w b ok v x) (hk : ∀ k, ok k → k ≠ g) : Kd.S d e (w.setCell ⟨g, 0, none⟩ u0) b ok v x := Kd.S_far (p := ⟨g, 0, none⟩) (h) hk u0

theorem zc2_ {w : World} {g : Nat} {t : TypeId} {a0 a1 : Value} (k : Aside0 (w.heap[g]? = some (.cells #[a0, a1] t (0, 0)))) : w.cell? ⟨g, 0, none⟩ = some a0 ∧ w.cell? ⟨g, 1, none⟩ = some a1 ∧ w.frozen? ⟨g, 0, none⟩ = false ∧ w.frozen? ⟨g, 1, none⟩ = false := ⟨(blk_cell k.out 0).trans rfl, (blk_cell k.out 1).trans rfl, blk_frozen k.out 0, blk_frozen k.out 1⟩

theorem put2_ {w : World} {g : Nat} {t : TypeId} {a0 a1 u0 u1 : Value} (h : w.heap[g]? = some (.cells #[a0, a1] t (0, 0))) : ((w.setCell ⟨g, 0, none⟩ u0).setCell ⟨g, 1, none⟩ u1).heap[g]? = some (.cells #[u0, u1] t (0, 0)) := blk_put (cs' := #[u0, u1]) (blk_put (cs' := #[u0, a1]) (h) 0 u0 rfl) 1 u1 rfl

theorem zc4_ {w : World} {g : Nat} {t : TypeId} {a0 a1 a2 a3 : Value} (k : Aside0 (w.heap[g]? = some (.cells #[a0, a1, a2, a3] t (0, 0)))) : w.cell? ⟨g, 0, none⟩ = some a0 ∧ w.cell? ⟨g, 1, none⟩ = some a1 ∧ w.cell? ⟨g, 2, none⟩ = some a2 ∧ w.cell? ⟨g, 3, none⟩ = some a3 ∧ w.frozen? ⟨g, 0, none⟩ = false ∧ w.frozen? ⟨g, 1, none⟩ = false ∧ w.frozen? ⟨g, 2, none⟩ = false ∧ w.frozen? ⟨g, 3, none⟩ = false := ⟨(blk_cell k.out 0).trans rfl, (blk_cell k.out 1).trans rfl, (blk_cell k.out 2).trans rfl, (blk_cell k.out 3).trans rfl, blk_frozen k.out 0, blk_frozen k.out 1, blk_frozen k.out 2, blk_frozen k.out 3⟩

theorem put4_ {w : World} {g : Nat} {t : TypeId} {a0 a1 a2 a3 u0 u1 u2 u3 : Value} (h : w.heap[g]? = some (.cells #[a0, a1, a2, a3] t (0, 0))) : ((((w.setCell ⟨g, 0, none⟩ u0).setCell ⟨g, 1, none⟩ u1).setCell ⟨g, 2, none⟩ u2).setCell ⟨g, 3, none⟩ u3).heap[g]? = some (.cells #[u0, u1, u2, u3] t (0, 0)) := blk_put (cs' := #[u0, u1, u2, u3]) (blk_put (cs' := #[u0, u1, u2, a3]) (blk_put (cs' := #[u0, u1, a2, a3]) (blk_put (cs' := #[u0, a1, a2, a3]) (h) 0 u0 rfl) 1 u1 rfl) 2 u2 rfl) 3 u3 rfl

theorem rf4_ {d : Kd α} {e b : Nat} {w : World} {ok : Nat → Prop} {v : Value} {x : List α} {u0 u1 u2 u3 : Value} (g : Nat) (h : Kd.R d e w b ok v x) (hk : ∀ k, ok k → k ≠ g) : Kd.R d e ((((w.setCell ⟨g, 0, none⟩ u0).setCell ⟨g, 1, none⟩ u1).setCell ⟨g, 2, none⟩ u2).setCell ⟨g, 3, none⟩ u3) b ok v x := Kd.R_far (p := ⟨g, 3, none⟩) (Kd.R_far (p := ⟨g, 2, none⟩) (Kd.R_far (p := ⟨g, 1, none⟩) (Kd.R_far (p := ⟨g, 0, none⟩) (h) hk u0) hk u1) hk u2) hk u3

theorem sf4_ {d : Kd α} {e b : Nat} {w : World} {ok : Nat → Prop} {v : Value} {x : List α} {u0 u1 u2 u3 : Value} (g : Nat) (h : Kd.S d e w b ok v x) (hk : ∀ k, ok k → k ≠ g) : Kd.S d e ((((w.setCell ⟨g, 0, none⟩ u0).setCell ⟨g, 1, none⟩ u1).setCell ⟨g, 2, none⟩ u2).setCell ⟨g, 3, none⟩ u3) b ok v x := Kd.S_far (p := ⟨g, 3, none⟩) (Kd.S_far (p := ⟨g, 2, none⟩) (Kd.S_far (p := ⟨g, 1, none⟩) (Kd.S_far (p := ⟨g, 0, none⟩) (h) hk u0) hk u1) hk u2) hk u3

theorem zc7_ {w : World} {g : Nat} {t : TypeId} {a0 a1 a2 a3 a4 a5 a6 : Value} (k : Aside0 (w.heap[g]? = some (.cells #[a0, a1, a2, a3, a4, a5, a6] t (0, 0)))) : w.cell? ⟨g, 0, none⟩ = some a0 ∧ w.cell? ⟨g, 1, none⟩ = some a1 ∧ w.cell? ⟨g, 2, none⟩ = some a2 ∧ w.cell? ⟨g, 3, none⟩ = some a3 ∧ w.cell? ⟨g, 4, none⟩ = some a4 ∧ w.cell? ⟨g, 5, none⟩ = some a5 ∧ w.cell? ⟨g, 6, none⟩ = some a6 ∧ w.frozen? ⟨g, 0, none⟩ = false ∧ w.frozen? ⟨g, 1, none⟩ = false ∧ w.frozen? ⟨g, 2, none⟩ = false ∧ w.frozen? ⟨g, 3, none⟩ = false ∧ w.frozen? ⟨g, 4, none⟩ = false ∧ w.frozen? ⟨g, 5, none⟩ = false ∧ w.frozen? ⟨g, 6, none⟩ = false := ⟨(blk_cell k.out 0).trans rfl, (blk_cell k.out 1).trans rfl, (blk_cell k.out 2).trans rfl, (blk_cell k.out 3).trans rfl, (blk_cell k.out 4).trans rfl, (blk_cell k.out 5).trans rfl, (blk_cell k.out 6).trans rfl, blk_frozen k.out 0, blk_frozen k.out 1, blk_frozen k.out 2, blk_frozen k.out 3, blk_frozen k.out 4, blk_frozen k.out 5, blk_frozen k.out 6⟩

theorem put7_ {w : World} {g : Nat} {t : TypeId} {a0 a1 a2 a3 a4 a5 a6 u0 u1 u2 u3 u4 u5 u6 : Value} (h : w.heap[g]? = some (.cells #[a0, a1, a2, a3, a4, a5, a6] t (0, 0))) : (((((((w.setCell ⟨g, 0, none⟩ u0).setCell ⟨g, 1, none⟩ u1).setCell ⟨g, 2, none⟩ u2).setCell ⟨g, 3, none⟩ u3).setCell ⟨g, 4, none⟩ u4).setCell ⟨g, 5, none⟩ u5).setCell ⟨g, 6, none⟩ u6).heap[g]? = some (.cells #[u0, u1, u2, u3, u4, u5, u6] t (0, 0)) := blk_put (cs' := #[u0, u1, u2, u3, u4, u5, u6]) (blk_put (cs' := #[u0, u1, u2, u3, u4, u5, a6]) (blk_put (cs' := #[u0, u1, u2, u3, u4, a5, a6]) (blk_put (cs' := #[u0, u1, u2, u3, a4, a5, a6]) (blk_put (cs' := #[u0, u1, u2, a3, a4, a5, a6]) (blk_put (cs' := #[u0, u1, a2, a3, a4, a5, a6]) (blk_put (cs' := #[u0, a1, a2, a3, a4, a5, a6]) (h) 0 u0 rfl) 1 u1 rfl) 2 u2 rfl) 3 u3 rfl) 4 u4 rfl) 5 u5 rfl) 6 u6 rfl

theorem rf7_ {d : Kd α} {e b : Nat} {w : World} {ok : Nat → Prop} {v : Value} {x : List α} {u0 u1 u2 u3 u4 u5 u6 : Value} (g : Nat) (h : Kd.R d e w b ok v x) (hk : ∀ k, ok k → k ≠ g) : Kd.R d e (((((((w.setCell ⟨g, 0, none⟩ u0).setCell ⟨g, 1, none⟩ u1).setCell ⟨g, 2, none⟩ u2).setCell ⟨g, 3, none⟩ u3).setCell ⟨g, 4, none⟩ u4).setCell ⟨g, 5, none⟩ u5).setCell ⟨g, 6, none⟩ u6) b ok v x := Kd.R_far (p := ⟨g, 6, none⟩) (Kd.R_far (p := ⟨g, 5, none⟩) (Kd.R_far (p := ⟨g, 4, none⟩) (Kd.R_far (p := ⟨g, 3, none⟩) (Kd.R_far (p := ⟨g, 2, none⟩) (Kd.R_far (p := ⟨g, 1, none⟩) (Kd.R_far (p := ⟨g, 0, none⟩) (h) hk u0) hk u1) hk u2) hk u3) hk u4) hk u5) hk u6

theorem sf7_ {d : Kd α} {e b : Nat} {w : World} {ok : Nat → Prop} {v : Value} {x : List α} {u0 u1 u2 u3 u4 u5 u6 : Value} (g : Nat) (h : Kd.S d e w b ok v x) (hk : ∀ k, ok k → k ≠ g) : Kd.S d e (((((((w.setCell ⟨g, 0, none⟩ u0).setCell ⟨g, 1, none⟩ u1).setCell ⟨g, 2, none⟩ u2).setCell ⟨g, 3, none⟩ u3).setCell ⟨g, 4, none⟩ u4).setCell ⟨g, 5, none⟩ u5).setCell ⟨g, 6, none⟩ u6) b ok v x := Kd.S_far (p := ⟨g, 6, none⟩) (Kd.S_far (p := ⟨g, 5, none⟩) (Kd.S_far (p := ⟨g, 4, none⟩) (Kd.S_far (p := ⟨g, 3, none⟩) (Kd.S_far (p := ⟨g, 2, none⟩) (Kd.S_far (p := ⟨g, 1, none⟩) (Kd.S_far (p := ⟨g, 0, none⟩) (h) hk u0) hk u1) hk u2) hk u3) hk u4) hk u5) hk u6

theorem fB_ {p q : Prop} (k : Aside0 q) (h : q → p := by intro BK0_; (with_reducible repeat first | apply kb1_ | apply kb2_ | apply kb3_ | apply put7_ | apply put4_ | apply put2_ | apply put1_ | refine far_ ?_ (by assumption) _ _); exact BK0_) : p := h k.out

theorem cS_ {p q : Prop} (k : q) (h : q → p := by intro C0_; repeat (first | exact C0_ | (with_reducible refine Kd.C_alloc ?_ _) | (with_reducible refine Kd.C_drewN ?_ _) | (with_reducible refine Kd.C_drew ?_))) : p := h k
end
end Go.Proofs.Ytmkcbbbknbahgaa.P
namespace Go.Proofs.Ytmkcbbbknbahgaa.P
open Go.RowKit Go.Proofs.YtmkcbbbknbahgaaW.PrintWords Go.Proofs.YtmkcbbbknbahgaaW.PrintLast Go.Proofs.YtmkcbbbknbahgaaW.PrintMore
set_option linter.unusedVariables false
set_option linter.unusedSimpArgs false
section
variable {H : Type} {enc : TypeId × Value → H} {P : Program} {w : World} {base : Nat} {spare : Nat → Bool} {held : Bool}

theorem mapM_each {α β : Type} {f : α → Option β} : ∀ {l : List α} {r : List β}, l.mapM f = some r → ∀ a ∈ l, ∃ y, f a = some y
  | [], _, _, a, ha => by cases ha
  | x :: l, r, h, a, ha => by
    rw [List.mapM_cons] at h
    simp only [Option.bind_eq_bind, Option.bind_eq_some_iff] at h
    obtain ⟨y, hy, ys, hys, _⟩ := h
    rcases List.mem_cons.1 ha with rfl | ha
    · exact ⟨y, hy⟩
    · exact mapM_each hys a ha

/-- A struct's reading is its fields' readings. -/
theorem trod_fields {t : TypeId} {fs : Array Field} {fuel : Nat} {cs : List Value} {x : DataW H × List MemPlace} (ht : P.underlying t = some (.struct fs)) (h : DataW.trod enc P w base spare held fuel t cs = some x) :
    cs.length = P.cellsOf t ∧ ∃ n : Nat, ∀ (i : Nat) (f : Field), fs[i]? = some f → ∃ y, DataW.trod enc P w base spare held n f.type ((cs.drop f.offset).take (P.cellsOf f.type)) = some y := by
  cases fuel with
  | zero => simp [DataW.trod] at h
  | succ n =>
    unfold DataW.trod at h
    rw [ht] at h
    have hs : (if cs.length = P.cellsOf t then (fs.toList.mapM fun f => DataW.trod enc P w base spare held n f.type ((cs.drop f.offset).take (P.cellsOf f.type))).map fun xs => ((.agg (xs.map (·.1)) : DataW H), xs.flatMap (·.2)) else none) = some x := by
      rcases cs with _ | ⟨c, _ | ⟨c2, cs⟩⟩
      · exact h
      · cases c <;> exact h
      · exact h
    by_cases hl : cs.length = P.cellsOf t
    · rw [if_pos hl] at hs
      cases hm : fs.toList.mapM (fun f => DataW.trod enc P w base spare held n f.type ((cs.drop f.offset).take (P.cellsOf f.type))) with
      | none => rw [hm] at hs; simp at hs
      | some r => exact ⟨hl, n, fun i f hf => mapM_each hm f (by rw [← Array.getElem?_toList] at hf; exact List.mem_of_getElem? hf)⟩
    · rw [if_neg hl] at hs
      simp at hs

theorem list_of_each {α : Type} {Q : Nat → α → Prop} : ∀ n, (∀ i, i < n → ∃ y, Q i y) → ∃ xs : List α, xs.length = n ∧ ∀ i p, xs[i]? = some p → Q i p
  | 0, _ => ⟨[], rfl, fun i p h => by simp at h⟩
  | n + 1, h => by
    obtain ⟨xs, hl, hx⟩ := list_of_each n (fun i hi => h i (by omega))
    obtain ⟨y, hy⟩ := h n (by omega)
    refine ⟨xs ++ [y], by simp [hl], fun i p hp => ?_⟩
    by_cases hi : i < xs.length
    · rw [List.getElem?_append_left hi] at hp
      exact hx i p hp
    · have h1 : i < (xs ++ [y]).length := (List.getElem?_eq_some_iff.1 hp).1
      have : i = xs.length := by simp at h1; omega
      subst this
      rw [List.getElem?_append_right (Nat.le_refl _)] at hp
      simp at hp
      subst hp
      rw [hl]
      exact hy

/-- What the reader tells of a type's cells: a value of the kind, of which R holds. -/
def Opens (P : Program) (H : Type) {α : Type} (d : Kd α) (R : α → Prop) (t : TypeId) : Prop :=
  ∀ {enc : TypeId × Value → H} {w : World} {base : Nat} {spare : Nat → Bool} {held : Bool} {fuel : Nat} {cs : List Value} {x : DataW H × List MemPlace}, DataW.trod enc P w base spare held fuel t cs = some x → cs.length = d.sz → ∃ y, d.K w y cs ∧ R y

theorem opens_int {k : IntKind} {t : TypeId} (ht : P.underlying t = some (.int k)) : Opens P H (Kd.int k) (fun n => (Lit.int k n).wf = true) t := by
  intro enc w base spare held fuel cs x h hl
  obtain ⟨n, hcs, hn⟩ := DataW.trod_int ht h
  exact ⟨n, hcs, hn.2⟩

/-- A slice whose elements can be read. -/
theorem opens_slice {α : Type} {d : Kd α} {R : α → Prop} {t e : TypeId} (ht : P.underlying t = some (.slice e)) (hd : Opens P H d R e) (hc : P.cellsOf e = d.sz) : Opens P H (Kd.slice e d) (fun xs => xs.length ≤ maxLen ∧ ∀ x ∈ xs, R x) t := by
  intro enc w base spare held fuel cs x h hl
  rcases Go.Deep.open_slice ht h with ⟨rfl, _⟩ | ⟨a, len, cap, m, n, D, Pl, rfl, hb, hlc, hm, hmm, hx, hel⟩
  · exact ⟨[], ⟨none, 0, rfl, Nat.le_refl _, ⟨rfl, by simp, fun h => by simp at h⟩⟩, ⟨Nat.zero_le _, fun x hx => by cases hx⟩⟩
  · have hlm : len ≤ m := by rw [hmm]; split <;> omega
    have hml : maxLen = 9223372036854775807 := rfl
    obtain ⟨xs, hlen, hxs⟩ := list_of_each (Q := fun i y => ∃ cs', w.cells? base (a.add (i * P.cellsOf e)) (P.cellsOf e) = some cs' ∧ d.K w y cs' ∧ R y) len (fun i hi => by
      obtain ⟨cs', h1, h2⟩ := hel i (by omega)
      obtain ⟨_, hl', _⟩ := World.cells?_some h1
      obtain ⟨y, hy, hr⟩ := hd h2 (by rw [hl', hc])
      exact ⟨y, cs', h1, hy, hr⟩)
    refine ⟨xs, ⟨some a, cap, by rw [hlen], by omega, ⟨rfl, by omega, fun _ => ⟨a, rfl, fun j p hp => ?_⟩⟩⟩, ⟨by omega, fun y hy => ?_⟩⟩
    · obtain ⟨cs', h1, h2, _⟩ := hxs j p hp
      obtain ⟨_, hl', hcell⟩ := World.cells?_some h1
      refine ⟨cs', by rw [hl', hc], h2, fun i u hu => ?_⟩
      have hi : i < cs'.length := (List.getElem?_eq_some_iff.1 hu).1
      have := hcell i (by omega)
      rw [hc] at this
      rw [← Addr.add_add, this, hu]
    · obtain ⟨j, hj⟩ := List.getElem?_of_mem hy
      obtain ⟨_, _, _, hr⟩ := hxs j y hj
      exact hr
end
end Go.Proofs.Ytmkcbbbknbahgaa.P
namespace Go.Proofs.Ytmkcbbbknbahgaa.P
open Go.RowKit Go.Proofs.YtmkcbbbknbahgaaW.PrintWords Go.Proofs.YtmkcbbbknbahgaaW.PrintLast Go.Proofs.YtmkcbbbknbahgaaW.PrintMore
set_option linter.unusedVariables false
set_option linter.unusedSimpArgs false

theorem uncons_ {α : Type} {l : List α} {n : Nat} (h : l.length = n + 1) : ∃ a t, l = a :: t ∧ t.length = n := by
  cases l with
  | nil => cases h
  | cons a t => exact ⟨a, t, rfl, Nat.succ.inj h⟩

theorem ce24 : Try.prog.cellsOf 24 = 1 := by kernel_rfl

theorem ce22 : Try.prog.cellsOf 22 = 1 := by kernel_rfl

theorem ce5 : Try.prog.cellsOf 5 = 1 := by kernel_rfl

theorem ce29 : Try.prog.cellsOf 29 = 1 := by kernel_rfl

theorem ce26 : Try.prog.cellsOf 26 = 4 := by kernel_rfl

theorem ce3 : Try.prog.cellsOf 3 = 1 := by kernel_rfl

theorem ce65 : Try.prog.cellsOf 65 = 7 := by kernel_rfl

theorem ce63 : Try.prog.cellsOf 63 = 1 := by kernel_rfl

theorem ce67 : Try.prog.cellsOf 67 = 2 := by kernel_rfl

theorem cells_24 {H : Type} {enc : TypeId × Value → H} {w : World} {base : Nat} {spare : Nat → Bool} {held : Bool} {fuel : Nat} {cs : List Value} {x : DataW H × List MemPlace} (h : DataW.trod enc Try.prog w base spare held fuel 24 cs = some x) :
    ∃ (A0 : Option Addr) (c0 : Nat) (l0 : List (List Int)), cs = [.slice A0 l0.length c0] ∧ Kd.C (Kd.slice 5 (Kd.int .u8)) w A0 l0.length l0 ∧ l0.length ≤ c0 ∧ (l0.length ≤ maxLen ∧ ∀ z ∈ l0, (z.length ≤ maxLen ∧ ∀ z2 ∈ z, (Lit.int .u8 z2).wf = true)) ∧ True := by
  obtain ⟨hl, n, hf⟩ := trod_fields Try.underlying24 h
  rw [ce24] at hl
  have hl0 := hl
  clear hl
  obtain ⟨x0, cs0, e_, hl1⟩ := uncons_ hl0
  subst e_
  clear hl0
  have e_ := List.eq_nil_of_length_eq_zero hl1
  subst e_
  obtain ⟨y0, q0⟩ := hf 0 _ rfl
  replace q0 : DataW.trod enc Try.prog w base spare held n 22 (List.take (Try.prog.cellsOf 22) (List.drop 0 [x0])) = some y0 := q0
  rw [ce22] at q0
  replace q0 : DataW.trod enc Try.prog w base spare held n 22 [x0] = some y0 := q0
  obtain ⟨l0, ⟨A0, c0, e_, HC0, HR0⟩, W0⟩ := (opens_slice (P := Try.prog) Try.underlying22 (opens_slice (P := Try.prog) Try.underlying29 (opens_int (P := Try.prog) Try.underlying5) ce5) ce29) q0 rfl
  obtain rfl := (List.cons.inj e_).1
  clear e_
  exact ⟨A0, c0, l0, rfl, HR0, HC0, W0, trivial⟩

theorem cells_26 {H : Type} {enc : TypeId × Value → H} {w : World} {base : Nat} {spare : Nat → Bool} {held : Bool} {fuel : Nat} {cs : List Value} {x : DataW H × List MemPlace} (h : DataW.trod enc Try.prog w base spare held fuel 26 cs = some x) :
    ∃ (a0 : Int) (a1 : Int) (a2 : Int) (a3 : Int), cs = [.int .i64 a0, .int .i64 a1, .int .i64 a2, .int .i64 a3] ∧ (Lit.int .i64 a0).wf = true ∧ (Lit.int .i64 a1).wf = true ∧ (Lit.int .i64 a2).wf = true ∧ (Lit.int .i64 a3).wf = true ∧ True := by
  obtain ⟨hl, n, hf⟩ := trod_fields Try.underlying26 h
  rw [ce26] at hl
  have hl0 := hl
  clear hl
  obtain ⟨x0, cs0, e_, hl1⟩ := uncons_ hl0
  subst e_
  clear hl0
  obtain ⟨x1, cs1, e_, hl2⟩ := uncons_ hl1
  subst e_
  clear hl1
  obtain ⟨x2, cs2, e_, hl3⟩ := uncons_ hl2
  subst e_
  clear hl2
  obtain ⟨x3, cs3, e_, hl4⟩ := uncons_ hl3
  subst e_
  clear hl3
  have e_ := List.eq_nil_of_length_eq_zero hl4
  subst e_
  obtain ⟨y0, q0⟩ := hf 0 _ rfl
  replace q0 : DataW.trod enc Try.prog w base spare held n 3 (List.take (Try.prog.cellsOf 3) (List.drop 0 [x0, x1, x2, x3])) = some y0 := q0
  rw [ce3] at q0
  replace q0 : DataW.trod enc Try.prog w base spare held n 3 [x0] = some y0 := q0
  obtain ⟨y1, q1⟩ := hf 1 _ rfl
  replace q1 : DataW.trod enc Try.prog w base spare held n 3 (List.take (Try.prog.cellsOf 3) (List.drop 1 [x0, x1, x2, x3])) = some y1 := q1
  rw [ce3] at q1
  replace q1 : DataW.trod enc Try.prog w base spare held n 3 [x1] = some y1 := q1
  obtain ⟨y2, q2⟩ := hf 2 _ rfl
  replace q2 : DataW.trod enc Try.prog w base spare held n 3 (List.take (Try.prog.cellsOf 3) (List.drop 2 [x0, x1, x2, x3])) = some y2 := q2
  rw [ce3] at q2
  replace q2 : DataW.trod enc Try.prog w base spare held n 3 [x2] = some y2 := q2
  obtain ⟨y3, q3⟩ := hf 3 _ rfl
  replace q3 : DataW.trod enc Try.prog w base spare held n 3 (List.take (Try.prog.cellsOf 3) (List.drop 3 [x0, x1, x2, x3])) = some y3 := q3
  rw [ce3] at q3
  replace q3 : DataW.trod enc Try.prog w base spare held n 3 [x3] = some y3 := q3
  obtain ⟨a0, e_, W0⟩ := DataW.trod_int Try.underlying3 q0
  obtain rfl := (List.cons.inj e_).1
  clear e_
  replace W0 := W0.2
  obtain ⟨a1, e_, W1⟩ := DataW.trod_int Try.underlying3 q1
  obtain rfl := (List.cons.inj e_).1
  clear e_
  replace W1 := W1.2
  obtain ⟨a2, e_, W2⟩ := DataW.trod_int Try.underlying3 q2
  obtain rfl := (List.cons.inj e_).1
  clear e_
  replace W2 := W2.2
  obtain ⟨a3, e_, W3⟩ := DataW.trod_int Try.underlying3 q3
  obtain rfl := (List.cons.inj e_).1
  clear e_
  replace W3 := W3.2
  exact ⟨a0, a1, a2, a3, rfl, W0, W1, W2, W3, trivial⟩

theorem cells_65 {H : Type} {enc : TypeId × Value → H} {w : World} {base : Nat} {spare : Nat → Bool} {held : Bool} {fuel : Nat} {cs : List Value} {x : DataW H × List MemPlace} (h : DataW.trod enc Try.prog w base spare held fuel 65 cs = some x) :
    ∃ (A0 : Option Addr) (c0 : Nat) (l0 : List (List Int)) (a1 : Int) (a2 : Int) (a3 : Int) (a4 : Int) (a5 : Int) (A6 : Option Addr) (c6 : Nat) (l6 : List Int), cs = [.slice A0 l0.length c0, .int .i64 a1, .int .i64 a2, .int .i64 a3, .int .i64 a4, .int .i64 a5, .slice A6 l6.length c6] ∧ Kd.C (Kd.slice 5 (Kd.int .u8)) w A0 l0.length l0 ∧ l0.length ≤ c0 ∧ (l0.length ≤ maxLen ∧ ∀ z ∈ l0, (z.length ≤ maxLen ∧ ∀ z2 ∈ z, (Lit.int .u8 z2).wf = true)) ∧ (Lit.int .i64 a1).wf = true ∧ (Lit.int .i64 a2).wf = true ∧ (Lit.int .i64 a3).wf = true ∧ (Lit.int .i64 a4).wf = true ∧ (Lit.int .i64 a5).wf = true ∧ Kd.C (Kd.int .i64) w A6 l6.length l6 ∧ l6.length ≤ c6 ∧ (l6.length ≤ maxLen ∧ ∀ z ∈ l6, (Lit.int .i64 z).wf = true) ∧ True := by
  obtain ⟨hl, n, hf⟩ := trod_fields Try.underlying65 h
  rw [ce65] at hl
  have hl0 := hl
  clear hl
  obtain ⟨x0, cs0, e_, hl1⟩ := uncons_ hl0
  subst e_
  clear hl0
  obtain ⟨x1, cs1, e_, hl2⟩ := uncons_ hl1
  subst e_
  clear hl1
  obtain ⟨x2, cs2, e_, hl3⟩ := uncons_ hl2
  subst e_
  clear hl2
  obtain ⟨x3, cs3, e_, hl4⟩ := uncons_ hl3
  subst e_
  clear hl3
  obtain ⟨x4, cs4, e_, hl5⟩ := uncons_ hl4
  subst e_
  clear hl4
  obtain ⟨x5, cs5, e_, hl6⟩ := uncons_ hl5
  subst e_
  clear hl5
  obtain ⟨x6, cs6, e_, hl7⟩ := uncons_ hl6
  subst e_
  clear hl6
  have e_ := List.eq_nil_of_length_eq_zero hl7
  subst e_
  obtain ⟨y0, q0⟩ := hf 0 _ rfl
  replace q0 : DataW.trod enc Try.prog w base spare held n 24 (List.take (Try.prog.cellsOf 24) (List.drop 0 [x0, x1, x2, x3, x4, x5, x6])) = some y0 := q0
  rw [ce24] at q0
  replace q0 : DataW.trod enc Try.prog w base spare held n 24 [x0] = some y0 := q0
  obtain ⟨y1, q1⟩ := hf 1 _ rfl
  replace q1 : DataW.trod enc Try.prog w base spare held n 26 (List.take (Try.prog.cellsOf 26) (List.drop 1 [x0, x1, x2, x3, x4, x5, x6])) = some y1 := q1
  rw [ce26] at q1
  replace q1 : DataW.trod enc Try.prog w base spare held n 26 [x1, x2, x3, x4] = some y1 := q1
  obtain ⟨y2, q2⟩ := hf 2 _ rfl
  replace q2 : DataW.trod enc Try.prog w base spare held n 3 (List.take (Try.prog.cellsOf 3) (List.drop 5 [x0, x1, x2, x3, x4, x5, x6])) = some y2 := q2
  rw [ce3] at q2
  replace q2 : DataW.trod enc Try.prog w base spare held n 3 [x5] = some y2 := q2
  obtain ⟨y3, q3⟩ := hf 3 _ rfl
  replace q3 : DataW.trod enc Try.prog w base spare held n 63 (List.take (Try.prog.cellsOf 63) (List.drop 6 [x0, x1, x2, x3, x4, x5, x6])) = some y3 := q3
  rw [ce63] at q3
  replace q3 : DataW.trod enc Try.prog w base spare held n 63 [x6] = some y3 := q3
  obtain ⟨A0, c0, l0, e_0, HR0, HC0, W0, _⟩ := cells_24 q0
  obtain ⟨d_, e_1⟩ := List.cons.inj e_0
  subst d_
  clear e_0
  obtain ⟨a1, a2, a3, a4, e_0, W1, W2, W3, W4, _⟩ := cells_26 q1
  obtain ⟨d_, e_1⟩ := List.cons.inj e_0
  subst d_
  clear e_0
  obtain ⟨d_, e_2⟩ := List.cons.inj e_1
  subst d_
  clear e_1
  obtain ⟨d_, e_3⟩ := List.cons.inj e_2
  subst d_
  clear e_2
  obtain ⟨d_, e_4⟩ := List.cons.inj e_3
  subst d_
  clear e_3
  obtain ⟨a5, e_, W5⟩ := DataW.trod_int Try.underlying3 q2
  obtain rfl := (List.cons.inj e_).1
  clear e_
  replace W5 := W5.2
  obtain ⟨l6, ⟨A6, c6, e_, HC6, HR6⟩, W6⟩ := (opens_slice (P := Try.prog) Try.underlying63 (opens_int (P := Try.prog) Try.underlying3) ce3) q3 rfl
  obtain rfl := (List.cons.inj e_).1
  clear e_
  exact ⟨A0, c0, l0, a1, a2, a3, a4, a5, A6, c6, l6, rfl, HR0, HC0, W0, W1, W2, W3, W4, W5, HR6, HC6, W6, trivial⟩

theorem cells_67 {H : Type} {enc : TypeId × Value → H} {w : World} {base : Nat} {spare : Nat → Bool} {held : Bool} {fuel : Nat} {cs : List Value} {x : DataW H × List MemPlace} (h : DataW.trod enc Try.prog w base spare held fuel 67 cs = some x) :
    ∃ (a0 : Int) (a1 : Int), cs = [.int .i64 a0, .int .i64 a1] ∧ (Lit.int .i64 a0).wf = true ∧ (Lit.int .i64 a1).wf = true ∧ True := by
  obtain ⟨hl, n, hf⟩ := trod_fields Try.underlying67 h
  rw [ce67] at hl
  have hl0 := hl
  clear hl
  obtain ⟨x0, cs0, e_, hl1⟩ := uncons_ hl0
  subst e_
  clear hl0
  obtain ⟨x1, cs1, e_, hl2⟩ := uncons_ hl1
  subst e_
  clear hl1
  have e_ := List.eq_nil_of_length_eq_zero hl2
  subst e_
  obtain ⟨y0, q0⟩ := hf 0 _ rfl
  replace q0 : DataW.trod enc Try.prog w base spare held n 3 (List.take (Try.prog.cellsOf 3) (List.drop 0 [x0, x1])) = some y0 := q0
  rw [ce3] at q0
  replace q0 : DataW.trod enc Try.prog w base spare held n 3 [x0] = some y0 := q0
  obtain ⟨y1, q1⟩ := hf 1 _ rfl
  replace q1 : DataW.trod enc Try.prog w base spare held n 3 (List.take (Try.prog.cellsOf 3) (List.drop 1 [x0, x1])) = some y1 := q1
  rw [ce3] at q1
  replace q1 : DataW.trod enc Try.prog w base spare held n 3 [x1] = some y1 := q1
  obtain ⟨a0, e_, W0⟩ := DataW.trod_int Try.underlying3 q0
  obtain rfl := (List.cons.inj e_).1
  clear e_
  replace W0 := W0.2
  obtain ⟨a1, e_, W1⟩ := DataW.trod_int Try.underlying3 q1
  obtain rfl := (List.cons.inj e_).1
  clear e_
  replace W1 := W1.2
  exact ⟨a0, a1, rfl, W0, W1, trivial⟩
end Go.Proofs.Ytmkcbbbknbahgaa.P
namespace Go.Proofs.Ytmkcbbbknbahgaa.P
open Go.RowKit Go.Proofs.YtmkcbbbknbahgaaW.PrintWords Go.Proofs.YtmkcbbbknbahgaaW.PrintLast Go.Proofs.YtmkcbbbknbahgaaW.PrintMore

/-- Block k holds cells of one of these types. -/
def Ty (w : World) (E : List Nat) (k : Nat) : Prop := ∃ q, q ∈ E ∧ ∃ cells, w.heap[k]? = some (.cells cells q (0, 0))

/-- The blocks from lo on and below hi, of these types. -/
def Seg (lo hi : Nat) (w : World) (E : List Nat) (k : Nat) : Prop := lo ≤ k ∧ k < hi ∧ Ty w E k

theorem Ty_ne {w : World} {E E2 : List Nat} {k : Nat} (h : Ty w E k) (h2 : Ty w E2 k) (hd : (E.all fun q => !E2.contains q) = true) : False := by
  obtain ⟨q, hq, c, hc⟩ := h
  obtain ⟨q2, hq2, c2, hc2⟩ := h2
  rw [hc] at hc2
  injection hc2 with hc2
  injection hc2 with _ hc2
  subst hc2
  have := List.all_eq_true.1 hd q hq
  simp [hq2] at this
end Go.Proofs.Ytmkcbbbknbahgaa.P
namespace Go.Proofs.Ytmkcbbbknbahgaa.P
open Go.RowKit Go.Proofs.YtmkcbbbknbahgaaW.PrintWords Go.Proofs.YtmkcbbbknbahgaaW.PrintLast Go.Proofs.YtmkcbbbknbahgaaW.PrintMore
attribute [local go_sem] max2_int min2_int max_two min_two max_three min_three max_four min_four   -- for this text's walks alone
set_option linter.unusedVariables false
set_option linter.unusedSimpArgs false

def laws_markByteS.l0 : Nat → List Int → Int → Int → Option (Int × List Int)
 | 0, _, _, _ => none
 | k + 1, x0, x1, x5 => if x5 < (x0.length : Int) then (if 0 ≤ x5 then (laws_markByteS.l0 k (x0.set (x5 : Int).toNat ((x1) % 256)) (wrap64 (x1 + 1)) (wrap64 (x5 + 1))) else (none)) else (some (x1, x0))

def laws_markByteS.f (k : Nat) (l0 : List Int) (a1 : Int) : Option (Int × List Int) := laws_markByteS.l0 k l0 a1 0

set_option maxHeartbeats 8000000 in
set_option maxRecDepth 100000 in
theorem laws_markByteS.calls (k : Nat) (P0_ : Nat → Prop) (u9000_ : Value) (l0 : List Int) (a1 : Int) (r1 : Int) (r2 : List Int) (w0 w : World) (hB : Below w0.heap.size w0 w) (ho0 : Kd.R (Kd.int .u8) 5 w w0.heap.size P0_ u9000_ l0) (h : laws_markByteS.f k l0 a1 = some (r1, r2)) :
  Calls Try.prog 21 #[u9000_, .int .i64 a1] w fun e w' => e = .returned (.int .i64 r1) ∧ Kd.R (Kd.int .u8) 5 w' w0.heap.size (fun k_ => (P0_ k_ ∨ w.heap.size ≤ k_)) u9000_ r2 ∧ Below w0.heap.size w0 w' ∧ Kept w w' (fun k_ => P0_ k_) := by
 have HO0 := Aside0.mk (show Kd.R (Kd.int .u8) 5 w w0.heap.size (fun k_ => (P0_ k_ ∨ w.heap.size ≤ k_)) u9000_ l0 from Kd.R_mono ho0 (fun k_ hk => (.inl hk)))
 have HK := Aside0.mk (Kept.refl w (fun k_ => P0_ k_))
 have HW0 := Aside0.mk hB.size
 have HB := Aside0.mk hB
 clear hB
 have H : (laws_markByteS.l0 k l0 a1 0) = some (r1, r2) := h
 clear h
 have H' := Aside0.mk H
 clear H
 go_enter Try.func21, Try.ntmps21
 go_wp2
 go_loopg [1, 5] k (fun kq v1 v5 w' => ∃ (x0_1 : List Int) (x1_1 : Int) (x5_1 : Int), v1 = .int .i64 x1_1 ∧ v5 = .int .i64 x5_1 ∧ Aside0 (laws_markByteS.l0 kq x0_1 x1_1 x5_1 = some (r1, r2)) ∧ Aside0 (kq ≤ k) ∧ Aside0 (Kd.R (Kd.int .u8) 5 w' w0.heap.size (fun k_ => (P0_ k_ ∨ w.heap.size ≤ k_)) u9000_ x0_1) ∧ Aside0 (Kept w w' (fun k_ => P0_ k_)) ∧ Aside0 (Below w0.heap.size w0 w'))
 case atStart => exact ⟨(l0), (a1), (0), (by first | rfl | (simp; done) | (simp [*]; done)), (by first | rfl | (simp; done) | (simp [*]; done)), H', ⟨Nat.le_refl _⟩, ⟨by (with_reducible repeat first | apply kr1_ | apply kr2_ | apply kr3_); exact HO0.out⟩, ⟨by repeat (first | (with_reducible first | exact HK.out | apply Kept.alloc | apply Kept.drewN | apply Kept.drew) | exact HK.out)⟩, ⟨by repeat (first | (with_reducible first | exact HB.out | apply below_alloc | apply pw_below_drewN | apply below_drew1) | exact HB.out)⟩⟩
 case round =>
  clear H'
  try clear c2
  try clear p2
  obtain ⟨x0_1, x1_1, x5_1, rfl, rfl, HA, HK1, HO_0, HK, HB⟩ := hrel
  cases gk with
  | zero => exact absurd HA.out (by simp [laws_markByteS.l0])
  | succ k1 =>
   have H := HA.out
   clear HA
   simp only [laws_markByteS.l0] at H
   by_cases c3 : x5_1 < (x0_1.length : Int)
   ·rw [if_pos c3] at H
    have c3b0 : decide (x5_1 < (x0_1.length : Int)) = true := decide_eq_true c3
    clear c3
    by_cases c4 : 0 ≤ x5_1
    ·rw [if_pos c4] at H
     have c4b0 : decide (0 ≤ x5_1) = true := decide_eq_true c4
     clear c4
     obtain ⟨y371, hy371⟩ : ∃ y_ : List Int, y_ = (x0_1.set (x5_1 : Int).toNat ((x1_1) % 256)) := ⟨_, rfl⟩
     replace H : (laws_markByteS.l0 k1 y371 (wrap64 (x1_1 + 1)) (wrap64 (x5_1 + 1))) = some (r1, r2) := by first | (rw [hy371]; with_reducible exact H) | (have H2_ := (Option.bind_some _ _).symm.trans H; rw [hy371]; with_reducible exact H2_) | (have H2_ := (Option.bind_some _ _).symm.trans H; with_reducible exact H2_) | with_reducible exact H | (rw [hy371]; exact H) | exact H
     have Ny371 := Aside0.mk hy371
     clear hy371
     have H' := Aside0.mk H
     clear H
     obtain ⟨Ao6, co6, eo6⟩ := Kd.R_slice HO_0.out
     subst eo6
     have p5 : 0 ≤ (x5_1 : Int) := of_decide_eq_true as_
     have q5 : (x5_1 : Int) < ((x0_1.length : Int) : Int) := of_decide_eq_true as_
     obtain ⟨go5, co5, eo5, gb5, gl5, cl5, HG5⟩ := Kd.R_form HO_0.out (by omega)
     (first | cases eo5 | (injection eo5 with ea_ en_ ec_; (first | subst ea_ | (injection ea_ with ea_; subst ea_)); subst ec_; clear en_))
     have GB5 := Aside0.mk gb5
     have GG5 := Aside0.mk HG5
     clear gb5 gl5 HG5
     have HMgo5 := Aside0.mk (show (P0_ go5 ∨ w.heap.size ≤ go5) from (HO_0.out.1 _ rfl))
     obtain ⟨hx5_0, hf5_0⟩ := Kd.R_celln 0 HO_0.out (x5_1 : Int) p5 q5
     replace p5 := eq_true p5
     replace q5 := eq_true q5
     have HP7 := Kd.R_putg HO_0.out (x5_1 : Int) ((x1_1) % 256)
     go_wp2_with (first | ((with_reducible refine gate_store (t := 5) (p := 16) rfl ?_); refine store_event (t := 5) (p := 16) (v := ?vo_w8) (w1 := (wr.setCell ⟨go5, (x5_1 : Int).toNat, none⟩ (.int .u8 ((x1_1) % 256)))) ?hg ?ho ?hn ?hr ?_; (case ho => rfl); (case hg => rfl); (case hn => rfl); (case hr => exact gs_); intro w8 hw; have hg : wr.grownBy w8 (some go5) := (by rw [hw]; exact HP7.2); have hp_ : Kd.R (Kd.int .u8) 5 w8 w0.heap.size (fun k_ => (P0_ k_ ∨ w.heap.size ≤ k_)) (.slice (some ⟨go5, 0, none⟩) x0_1.length co6) y371 := (by rw [hw, Ny371.out]; exact HP7.1); clear HP7; replace HB := Aside0.mk ((by rw [hw]; exact below_set (HB.out) GB5.out : Below w0.heap.size w0 w8)); replace HK := Aside0.mk (Kept.of_grown (S := (fun k_ => P0_ k_)) hg (by repeat (first | (with_reducible first | exact HK.out | apply Kept.alloc | apply Kept.drewN | apply Kept.drew) | exact HK.out)) (fun k_ e_ => (HO_0.out.1 k_ e_))); replace HO_0 := Aside0.mk (hp_); clear hg hw hp_))
     go_roundg k1
     case measure => have := HK1.out; omega
     case rel => exact ⟨(y371), (wrap64 (x1_1 + 1)), (wrap64 (x5_1 + 1)), (by first | rfl | (simp; done) | (simp [*]; done)), (by first | rfl | (simp; done) | (simp [*]; done)), H', ⟨by have := HK1.out; omega⟩, ⟨by (with_reducible repeat first | apply kr1_ | apply kr2_ | apply kr3_); exact HO_0.out⟩, ⟨by repeat (first | (with_reducible first | exact HK.out | apply Kept.alloc | apply Kept.drewN | apply Kept.drew) | exact HK.out)⟩, ⟨by repeat (first | (with_reducible first | exact HB.out | apply below_alloc | apply pw_below_drewN | apply below_drew1) | exact HB.out)⟩⟩
    ·rw [if_neg c4] at H
     exact absurd H (by simp)
   ·rw [if_neg c3] at H
    have c3b0 : decide (x5_1 < (x0_1.length : Int)) = false := decide_eq_false c3
    clear c3
    simp only [Option.some.injEq, Prod.mk.injEq] at H
    obtain ⟨rfl, rfl⟩ := H
    obtain ⟨Ao9, co9, eo9⟩ := Kd.R_slice HO_0.out
    subst eo9
    go_wp2
    go_ret
    exact ⟨er_, by (with_reducible repeat first | apply kr1_ | apply kr2_ | apply kr3_); exact HO_0.out, by repeat (first | (with_reducible first | exact HB.out | apply below_alloc | apply pw_below_drewN | apply below_drew1) | exact HB.out), by repeat (first | (with_reducible first | exact HK.out | apply Kept.alloc | apply Kept.drewN | apply Kept.drew) | exact HK.out)⟩
end Go.Proofs.Ytmkcbbbknbahgaa.P
namespace Go.Proofs.Ytmkcbbbknbahgaa.P
open Go.RowKit Go.Proofs.YtmkcbbbknbahgaaW.PrintWords Go.Proofs.YtmkcbbbknbahgaaW.PrintLast Go.Proofs.YtmkcbbbknbahgaaW.PrintMore
set_option linter.unusedVariables false
set_option linter.unusedSimpArgs false

theorem grown_of_kept {w0 w w' : World} {v : Value} (h0 : Below w0.heap.size w0 w) (h1 : Below w0.heap.size w0 w') (hk : Kept w w' (fun k_ => some k_ = v.ownBlock)) : w.grownBy w' v.ownBlock :=
  ⟨h1.os.trans h0.os.symm, h1.tape.trans h0.tape.symm, h1.output.trans h0.output.symm, hk.1, fun k hk1 hk2 => hk.2 k hk1 hk2⟩

def laws_markByteSS.l0 : Nat → List (List Int) → Int → Int → Option (Int × List (List Int))
  | 0, _, _, _ => none
  | k + 1, x0, x1, x5 => if x5 < (x0.length : Int) then (if 0 ≤ x5 then ((laws_markByteS.f k (rd_L1 x0 x5) x1).bind fun t => laws_markByteSS.l0 k (x0.set x5.toNat t.2) t.1 (wrap64 (x5 + 1))) else none) else some (x1, x0)

def laws_markByteSS.f (k : Nat) (l0 : List (List Int)) (a1 : Int) : Option (Int × List (List Int)) := laws_markByteSS.l0 k l0 a1 0

set_option maxHeartbeats 8000000 in
set_option maxRecDepth 100000 in
theorem laws_markByteSS.calls (k : Nat) (P0_ : Nat → Prop) (u : Value) (l0 : List (List Int)) (a1 : Int) (r1 : Int) (r2 : List (List Int)) (w0 w : World) (hB : Below w0.heap.size w0 w) (ho0 : Kd.S (Kd.slice 5 (Kd.int .u8)) 29 w w0.heap.size P0_ u l0) (h : laws_markByteSS.f k l0 a1 = some (r1, r2)) :
    Calls Try.prog 130 #[u, .int .i64 a1] w fun e w' => e = .returned (.int .i64 r1) ∧ Kd.S (Kd.slice 5 (Kd.int .u8)) 29 w' w0.heap.size P0_ u r2 ∧ Below w0.heap.size w0 w' ∧ Kept w w' P0_ := by
  obtain ⟨A, c, rfl⟩ := Kd.S_slice ho0
  obtain ⟨n, hn⟩ : ∃ n, n = l0.length := ⟨_, rfl⟩
  rw [← hn] at ho0 ⊢
  clear hn
  have HO := Aside0.mk ho0
  have HBx := Aside0.mk hB
  have H' := Aside0.mk (show laws_markByteSS.l0 k l0 a1 0 = some (r1, r2) from h)
  clear ho0 hB h
  go_enter Try.func130, Try.ntmps130
  go_wp2
  go_loopg [1, 5] k (fun kq v1 v5 w' => ∃ (x0 : List (List Int)) (x1 x5 : Int), v1 = .int .i64 x1 ∧ v5 = .int .i64 x5 ∧ Aside0 (laws_markByteSS.l0 kq x0 x1 x5 = some (r1, r2)) ∧ Aside0 (Kd.S (Kd.slice 5 (Kd.int .u8)) 29 w' w0.heap.size P0_ (.slice A n c) x0) ∧ Aside0 (Below w0.heap.size w0 w') ∧ Aside0 (Kept w w' P0_))
  case atStart => exact ⟨l0, a1, 0, rfl, rfl, H', HO, HBx, ⟨Kept.refl _ _⟩⟩
  case round =>
    clear H' HO HBx
    obtain ⟨x0, x1, x5, rfl, rfl, HA, HO, HB, HK⟩ := hrel
    obtain ⟨hn, _, hC⟩ := Kd.S_reads' HO.out
    cases gk with
    | zero => exact absurd HA.out (by simp [laws_markByteSS.l0])
    | succ k1 =>
      have H := HA.out
      clear HA
      simp only [laws_markByteSS.l0] at H
      by_cases c1 : x5 < (x0.length : Int)
      · rw [if_pos c1] at H
        by_cases c2 : 0 ≤ x5
        · rw [if_pos c2] at H
          obtain ⟨⟨t1, t2⟩, ht, H⟩ := Option.bind_eq_some_iff.mp H
          obtain ⟨ad, A', c', e, hcell, hlc, hin⟩ := at_L1 hC x5 c2 (by omega)
          cases e
          obtain ⟨oki, ce, hce, hM, hcc, hoki, hbk⟩ := Kd.S_borrow HO.out [] x5 c2 (by omega)
          obtain ⟨ve, rfl, hRe⟩ := hM
          have hve := hcc 0 _ rfl
          rw [Nat.add_zero, show (Kd.slice 5 (Kd.int .u8)).sz = 1 from rfl, Nat.mul_one] at hve
          replace hve := Option.some.inj (hve.symm.trans hcell)
          subst hve
          replace hRe := (show Kd.R (Kd.int .u8) 5 wr w0.heap.size oki (.slice A' (rd_L1 x0 x5).length c') (rd_L1 x0 x5) from hRe)
          have HT := Aside0.mk ht
          have HR := Aside0.mk hRe
          have HBK := Aside0.mk @hbk
          have HOK := Aside0.mk hoki
          have HN := Aside0.mk hn
          have H1 := Aside0.mk H
          have hd : decide (x5 < (n : Int)) = true := decide_eq_true (by omega)
          have hq : (x5 < (n : Int)) = True := eq_true (by omega)
          have hp : (0 ≤ x5) = True := eq_true c2
          clear ht hRe hbk hoki hn H hcc hce hC hin hlc c1 c2
          go_wp2_with fail
          refine (laws_markByteS.calls k1 (fun k_ => some k_ = (Value.slice A' (rd_L1 x0 x5).length c').ownBlock) _ (rd_L1 x0 x5) x1 t1 t2 w0 wr HB.out (Kd.R_tight rfl HR.out) HT.out).mono ?_
          rintro e w' ⟨rfl, hR', hB', hK'⟩
          have hg := grown_of_kept HB.out hB' hK'
          have hR2 := Kd.R_flat (ok' := oki) (fun h => h) hR' (fun k_ hk _ => HR.out.1 k_ hk)
          have hS := HBK.out (x' := t2) hg (fun k_ hk => HR.out.1 k_ hk) (Kd.M_row hR2)
          have HO2 := Aside0.mk hS
          have HB2 := Aside0.mk hB'
          have HK2 := Aside0.mk (HK.out.then_ hK' (fun k_ hk => .inl (HOK.out k_ (HR.out.1 k_ hk.symm)).1))
          clear hR' hB' hK' hg hR2 hS HB HK HBK HR HOK HT hcell
          go_wp2
          go_roundg k1
          case measure => omega
          case rel => exact ⟨_, t1, _, rfl, rfl, H1, HO2, HB2, HK2⟩
        · rw [if_neg c2] at H
          exact absurd H (by simp)
      · rw [if_neg c1] at H
        have hd : decide (x5 < (n : Int)) = false := decide_eq_false (by omega)
        have H1 := Aside0.mk H
        clear H c1 hC hn
        go_wp2
        go_ret
        have h1 := H1.out
        simp only [Option.some.injEq, Prod.mk.injEq] at h1
        obtain ⟨rfl, rfl⟩ := h1
        exact ⟨rfl, HO.out, HB.out, HK.out⟩

set_option maxHeartbeats 4000000 in
set_option maxRecDepth 100000 in
theorem laws_markMemory.calls (k : Nat) (P0_ : Nat → Prop) (u : Value) (l0 : List (List Int)) (a1 : Int) (r1 : Int) (r2 : List (List Int)) (w0 w : World) (hB : Below w0.heap.size w0 w) (ho0 : Kd.S (Kd.slice 5 (Kd.int .u8)) 29 w w0.heap.size P0_ u l0) (h : laws_markByteSS.f k l0 a1 = some (r1, r2)) :
    Calls Try.prog 63 #[.agg #[u], .int .i64 a1] w fun e w' => e = .returned (.int .i64 r1) ∧ Kd.S (Kd.slice 5 (Kd.int .u8)) 29 w' w0.heap.size P0_ u r2 ∧ Below w0.heap.size w0 w' ∧ Kept w w' P0_ := by
  have hu1 := Try.underlying31
  obtain ⟨A, c, rfl⟩ := Kd.S_slice ho0
  have HO := Aside0.mk ho0
  have HB := Aside0.mk hB
  clear ho0 hB
  go_enter Try.func63, Try.ntmps63
  go_wp2_with fail
  have HA := Below.alloc (Below.refl w.heap.size w) (Nat.le_refl _) (.cells #[.slice A l0.length c] 31)
  refine (laws_markByteSS.calls k P0_ _ l0 a1 r1 r2 w0 _ (below_step HB.out HA) (Kd.S_below HO.out HA) h).mono ?_
  rintro e w' ⟨rfl, hS, hB', hK⟩
  have H1 := Aside0.mk hS
  have H2 := Aside0.mk hB'
  have H3 := Aside0.mk ((Kept.of_below HA P0_).then_ hK (fun _ hk => .inl hk))
  clear hS hB' hK HA HO
  go_wp2
  go_ret
  exact ⟨rfl, H1.out, H2.out, H3.out⟩
end Go.Proofs.Ytmkcbbbknbahgaa.P
namespace Go.Proofs.Ytmkcbbbknbahgaa.P
open Go.RowKit Go.Proofs.YtmkcbbbknbahgaaW.PrintWords Go.Proofs.YtmkcbbbknbahgaaW.PrintLast Go.Proofs.YtmkcbbbknbahgaaW.PrintMore
attribute [local go_sem] max2_int min2_int max_two min_two max_three min_three max_four min_four   -- for this text's walks alone
set_option linter.unusedVariables false
set_option linter.unusedSimpArgs false

def laws_markIntS.l0 : Nat → List Int → Int → Int → Option (Int × List Int)
 | 0, _, _, _ => none
 | k + 1, x0, x1, x5 => if x5 < (x0.length : Int) then (if 0 ≤ x5 then (laws_markIntS.l0 k (x0.set (x5 : Int).toNat x1) (wrap64 (x1 + 1)) (wrap64 (x5 + 1))) else (none)) else (some (x1, x0))

def laws_markIntS.f (k : Nat) (l0 : List Int) (a1 : Int) : Option (Int × List Int) := laws_markIntS.l0 k l0 a1 0

set_option maxHeartbeats 8000000 in
set_option maxRecDepth 100000 in
theorem laws_markIntS.calls (k : Nat) (P0_ : Nat → Prop) (u9000_ : Value) (l0 : List Int) (a1 : Int) (r1 : Int) (r2 : List Int) (w0 w : World) (hB : Below w0.heap.size w0 w) (ho0 : Kd.R (Kd.int .i64) 3 w w0.heap.size P0_ u9000_ l0) (h : laws_markIntS.f k l0 a1 = some (r1, r2)) :
  Calls Try.prog 104 #[u9000_, .int .i64 a1] w fun e w' => e = .returned (.int .i64 r1) ∧ Kd.R (Kd.int .i64) 3 w' w0.heap.size (fun k_ => (P0_ k_ ∨ w.heap.size ≤ k_)) u9000_ r2 ∧ Below w0.heap.size w0 w' ∧ Kept w w' (fun k_ => P0_ k_) := by
 have HO0 := Aside0.mk (show Kd.R (Kd.int .i64) 3 w w0.heap.size (fun k_ => (P0_ k_ ∨ w.heap.size ≤ k_)) u9000_ l0 from Kd.R_mono ho0 (fun k_ hk => (.inl hk)))
 have HK := Aside0.mk (Kept.refl w (fun k_ => P0_ k_))
 have HW0 := Aside0.mk hB.size
 have HB := Aside0.mk hB
 clear hB
 have H : (laws_markIntS.l0 k l0 a1 0) = some (r1, r2) := h
 clear h
 have H' := Aside0.mk H
 clear H
 go_enter Try.func104, Try.ntmps104
 go_wp2
 go_loopg [1, 5] k (fun kq v1 v5 w' => ∃ (x0_1 : List Int) (x1_1 : Int) (x5_1 : Int), v1 = .int .i64 x1_1 ∧ v5 = .int .i64 x5_1 ∧ Aside0 (laws_markIntS.l0 kq x0_1 x1_1 x5_1 = some (r1, r2)) ∧ Aside0 (kq ≤ k) ∧ Aside0 (Kd.R (Kd.int .i64) 3 w' w0.heap.size (fun k_ => (P0_ k_ ∨ w.heap.size ≤ k_)) u9000_ x0_1) ∧ Aside0 (Kept w w' (fun k_ => P0_ k_)) ∧ Aside0 (Below w0.heap.size w0 w'))
 case atStart => exact ⟨(l0), (a1), (0), (by first | rfl | (simp; done) | (simp [*]; done)), (by first | rfl | (simp; done) | (simp [*]; done)), H', ⟨Nat.le_refl _⟩, ⟨by (with_reducible repeat first | apply kr1_ | apply kr2_ | apply kr3_); exact HO0.out⟩, ⟨by repeat (first | (with_reducible first | exact HK.out | apply Kept.alloc | apply Kept.drewN | apply Kept.drew) | exact HK.out)⟩, ⟨by repeat (first | (with_reducible first | exact HB.out | apply below_alloc | apply pw_below_drewN | apply below_drew1) | exact HB.out)⟩⟩
 case round =>
  clear H'
  try clear c1
  try clear p2
  obtain ⟨x0_1, x1_1, x5_1, rfl, rfl, HA, HK1, HO_0, HK, HB⟩ := hrel
  cases gk with
  | zero => exact absurd HA.out (by simp [laws_markIntS.l0])
  | succ k1 =>
   have H := HA.out
   clear HA
   simp only [laws_markIntS.l0] at H
   by_cases c3 : x5_1 < (x0_1.length : Int)
   ·rw [if_pos c3] at H
    have c3b0 : decide (x5_1 < (x0_1.length : Int)) = true := decide_eq_true c3
    clear c3
    by_cases c4 : 0 ≤ x5_1
    ·rw [if_pos c4] at H
     have c4b0 : decide (0 ≤ x5_1) = true := decide_eq_true c4
     clear c4
     obtain ⟨y832, hy832⟩ : ∃ y_ : List Int, y_ = (x0_1.set (x5_1 : Int).toNat x1_1) := ⟨_, rfl⟩
     replace H : (laws_markIntS.l0 k1 y832 (wrap64 (x1_1 + 1)) (wrap64 (x5_1 + 1))) = some (r1, r2) := by first | (rw [hy832]; with_reducible exact H) | (have H2_ := (Option.bind_some _ _).symm.trans H; rw [hy832]; with_reducible exact H2_) | (have H2_ := (Option.bind_some _ _).symm.trans H; with_reducible exact H2_) | with_reducible exact H | (rw [hy832]; exact H) | exact H
     have Ny832 := Aside0.mk hy832
     clear hy832
     have H' := Aside0.mk H
     clear H
     obtain ⟨Ao6, co6, eo6⟩ := Kd.R_slice HO_0.out
     subst eo6
     have p5 : 0 ≤ (x5_1 : Int) := of_decide_eq_true as_
     have q5 : (x5_1 : Int) < ((x0_1.length : Int) : Int) := of_decide_eq_true as_
     obtain ⟨go5, co5, eo5, gb5, gl5, cl5, HG5⟩ := Kd.R_form HO_0.out (by omega)
     (first | cases eo5 | (injection eo5 with ea_ en_ ec_; (first | subst ea_ | (injection ea_ with ea_; subst ea_)); subst ec_; clear en_))
     have GB5 := Aside0.mk gb5
     have GG5 := Aside0.mk HG5
     clear gb5 gl5 HG5
     have HMgo5 := Aside0.mk (show (P0_ go5 ∨ w.heap.size ≤ go5) from (HO_0.out.1 _ rfl))
     obtain ⟨hx5_0, hf5_0⟩ := Kd.R_celln 0 HO_0.out (x5_1 : Int) p5 q5
     replace p5 := eq_true p5
     replace q5 := eq_true q5
     have HP7 := Kd.R_putg HO_0.out (x5_1 : Int) x1_1
     go_wp2_with (first | ((with_reducible refine gate_store (t := 3) (p := 15) rfl ?_); refine store_event (t := 3) (p := 15) (v := ?vo_w8) (w1 := (wr.setCell ⟨go5, (x5_1 : Int).toNat, none⟩ (.int .i64 x1_1))) ?hg ?ho ?hn ?hr ?_; (case ho => rfl); (case hg => rfl); (case hn => rfl); (case hr => exact gs_); intro w8 hw; have hg : wr.grownBy w8 (some go5) := (by rw [hw]; exact HP7.2); have hp_ : Kd.R (Kd.int .i64) 3 w8 w0.heap.size (fun k_ => (P0_ k_ ∨ w.heap.size ≤ k_)) (.slice (some ⟨go5, 0, none⟩) x0_1.length co6) y832 := (by rw [hw, Ny832.out]; exact HP7.1); clear HP7; replace HB := Aside0.mk ((by rw [hw]; exact below_set (HB.out) GB5.out : Below w0.heap.size w0 w8)); replace HK := Aside0.mk (Kept.of_grown (S := (fun k_ => P0_ k_)) hg (by repeat (first | (with_reducible first | exact HK.out | apply Kept.alloc | apply Kept.drewN | apply Kept.drew) | exact HK.out)) (fun k_ e_ => (HO_0.out.1 k_ e_))); replace HO_0 := Aside0.mk (hp_); clear hg hw hp_))
     go_roundg k1
     case measure => have := HK1.out; omega
     case rel => exact ⟨(y832), (wrap64 (x1_1 + 1)), (wrap64 (x5_1 + 1)), (by first | rfl | (simp; done) | (simp [*]; done)), (by first | rfl | (simp; done) | (simp [*]; done)), H', ⟨by have := HK1.out; omega⟩, ⟨by (with_reducible repeat first | apply kr1_ | apply kr2_ | apply kr3_); exact HO_0.out⟩, ⟨by repeat (first | (with_reducible first | exact HK.out | apply Kept.alloc | apply Kept.drewN | apply Kept.drew) | exact HK.out)⟩, ⟨by repeat (first | (with_reducible first | exact HB.out | apply below_alloc | apply pw_below_drewN | apply below_drew1) | exact HB.out)⟩⟩
    ·rw [if_neg c4] at H
     exact absurd H (by simp)
   ·rw [if_neg c3] at H
    have c3b0 : decide (x5_1 < (x0_1.length : Int)) = false := decide_eq_false c3
    clear c3
    simp only [Option.some.injEq, Prod.mk.injEq] at H
    obtain ⟨rfl, rfl⟩ := H
    obtain ⟨Ao9, co9, eo9⟩ := Kd.R_slice HO_0.out
    subst eo9
    go_wp2
    go_ret
    exact ⟨er_, by (with_reducible repeat first | apply kr1_ | apply kr2_ | apply kr3_); exact HO_0.out, by repeat (first | (with_reducible first | exact HB.out | apply below_alloc | apply pw_below_drewN | apply below_drew1) | exact HB.out), by repeat (first | (with_reducible first | exact HK.out | apply Kept.alloc | apply Kept.drewN | apply Kept.drew) | exact HK.out)⟩
end Go.Proofs.Ytmkcbbbknbahgaa.P
namespace Go.Proofs.Ytmkcbbbknbahgaa.P
open Go.RowKit Go.Proofs.YtmkcbbbknbahgaaW.PrintWords Go.Proofs.YtmkcbbbknbahgaaW.PrintLast Go.Proofs.YtmkcbbbknbahgaaW.PrintMore
set_option linter.unusedVariables false
set_option linter.unusedSimpArgs false

def laws_markArena.f (k : Nat) (l0 : List (List Int)) (l6 : List Int) (a0_ : Int) : Option (Int × List (List Int) × List Int) := (laws_markByteSS.f k l0 a0_).bind fun t0_ => (laws_markIntS.f k l6 t0_.1).bind fun t1_ => some (t1_.1, t0_.2, t1_.2)

set_option maxHeartbeats 4000000 in
set_option maxRecDepth 100000 in
theorem laws_markArena.calls (k : Nat) (P0 : Nat → Prop) (u0 : Value) (l0 : List (List Int)) (a1 : Int) (a2 : Int) (a3 : Int) (a4 : Int) (a5 : Int) (P6 : Nat → Prop) (u6 : Value) (l6 : List Int) (a0_ r_ : Int) (r0 : List (List Int)) (r6 : List Int) (w0 w : World) (hB : Below w0.heap.size w0 w) (ho0 : Kd.S (Kd.slice 5 (Kd.int .u8)) 29 w w0.heap.size P0 u0 l0) (ho6 : Kd.R (Kd.int .i64) 3 w w0.heap.size P6 u6 l6) (hP0_6 : ∀ k, P0 k → ¬ P6 k) (h : laws_markArena.f k l0 l6 a0_ = some (r_, r0, r6)) :
    Calls Try.prog 42 #[.agg #[u0, .int .i64 a1, .int .i64 a2, .int .i64 a3, .int .i64 a4, .int .i64 a5, u6], .int .i64 a0_] w fun e w' => e = .returned (.int .i64 r_) ∧ Kd.S (Kd.slice 5 (Kd.int .u8)) 29 w' w0.heap.size P0 u0 r0 ∧ Kd.R (Kd.int .i64) 3 w' w0.heap.size P6 u6 r6 ∧ Below w0.heap.size w0 w' ∧ Kept w w' (fun k => P0 k ∨ P6 k) := by
  have hu := Try.underlying70
  have hu_Memory := Try.underlying31
  unfold laws_markArena.f at h
  obtain ⟨⟨x0, z0⟩, hc0, h⟩ := Option.bind_eq_some_iff.mp h
  obtain ⟨⟨x1, z6⟩, hc1, h⟩ := Option.bind_eq_some_iff.mp h
  simp only [Option.some.injEq, Prod.mk.injEq] at h
  obtain ⟨rfl, rfl, rfl⟩ := h
  obtain ⟨A0, c0, rfl⟩ := Kd.S_slice ho0
  obtain ⟨A6, c6, rfl⟩ := Kd.R_slice ho6
  have O0 := Aside0.mk (show Kd.S (Kd.slice 5 (Kd.int .u8)) 29 w w0.heap.size (fun k_ => P0 k_ ∧ k_ < w.heap.size) (.slice A0 l0.length c0) l0 from Kd.S_mono (Kd.S_bound ho0) (fun k_ hk => ⟨hk.1, hk.2.2.1⟩))
  have O6 := Aside0.mk (show Kd.R (Kd.int .i64) 3 w w0.heap.size (fun k_ => P6 k_ ∧ k_ < w.heap.size) (.slice A6 l6.length c6) l6 from Kd.R_mono (Kd.R_bound ho6) (fun k_ hk => ⟨hk.1, hk.2.2.1⟩))
  have HB := Aside0.mk hB
  clear hB ho0 ho6
  have HA := Aside0.mk (Below.alloc (Below.refl w.heap.size w) (Nat.le_refl _) (.cells #[.slice A0 l0.length c0, .int .i64 a1, .int .i64 a2, .int .i64 a3, .int .i64 a4, .int .i64 a5, .slice A6 l6.length c6] 70))
  have BK := Aside0.mk (heap_alloc_new w (.cells #[.slice A0 l0.length c0, .int .i64 a1, .int .i64 a2, .int .i64 a3, .int .i64 a4, .int .i64 a5, .slice A6 l6.length c6] 70))
  go_enter Try.func42, Try.ntmps42
  go_wp2_with fail
  replace O0 := Aside0.mk (Kd.S_below O0.out HA.out)
  replace O6 := Aside0.mk (Kd.R_below O6.out HA.out)
  replace HB := Aside0.mk (below_step HB.out HA.out)
  have HK := Aside0.mk (Kept.of_below HA.out (fun k_ => (P0 k_ ∧ k_ < w.heap.size) ∨ (P6 k_ ∧ k_ < w.heap.size)))
  refine (laws_markMemory.calls k (fun k_ => P0 k_ ∧ k_ < w.heap.size) _ l0 a0_ x0 z0 w0 _ HB.out O0.out hc0).mono ?_
  rintro e v0 ⟨rfl, hO0, hB, hK⟩
  replace O6 := Aside0.mk (Kd.R_step O6.out (fun k_ hk hlt => hK.2 k_ hlt (fun hs => (hP0_6 k_ hs.1 hk.1))))
  replace BK := Aside0.mk (blk_kept BK.out hK (fun hs => (absurd hs.2 (Nat.lt_irrefl _))))
  replace O0 := Aside0.mk hO0
  replace HK := Aside0.mk (HK.out.then_ hK (fun k_ hk => .inl ((.inl hk))))
  replace HB := Aside0.mk hB
  clear hB hK hO0
  have hz0_0 : v0.cell? ⟨w.heap.size, 0, none⟩ = some (.slice A0 l0.length c0) := (blk_cell BK.out 0).trans rfl
  have hz0_1 : v0.cell? ⟨w.heap.size, 1, none⟩ = some (.int .i64 a1) := (blk_cell BK.out 1).trans rfl
  have hz0_2 : v0.cell? ⟨w.heap.size, 2, none⟩ = some (.int .i64 a2) := (blk_cell BK.out 2).trans rfl
  have hz0_3 : v0.cell? ⟨w.heap.size, 3, none⟩ = some (.int .i64 a3) := (blk_cell BK.out 3).trans rfl
  have hz0_4 : v0.cell? ⟨w.heap.size, 4, none⟩ = some (.int .i64 a4) := (blk_cell BK.out 4).trans rfl
  have hz0_5 : v0.cell? ⟨w.heap.size, 5, none⟩ = some (.int .i64 a5) := (blk_cell BK.out 5).trans rfl
  have hz0_6 : v0.cell? ⟨w.heap.size, 6, none⟩ = some (.slice A6 l6.length c6) := (blk_cell BK.out 6).trans rfl
  go_wp2_with fail
  clear hz0_0
  clear hz0_1
  clear hz0_2
  clear hz0_3
  clear hz0_4
  clear hz0_5
  clear hz0_6
  refine (laws_markIntS.calls k (fun k_ => P6 k_ ∧ k_ < w.heap.size) _ l6 x0 x1 z6 w0 _ HB.out O6.out hc1).mono ?_
  rintro e v1 ⟨rfl, hO6, hB, hK⟩
  replace O0 := Aside0.mk (Kd.S_step O0.out (fun k_ hk hlt => hK.2 k_ hlt (fun hs => (hP0_6 k_ hk.1 hs.1))))
  replace BK := Aside0.mk (blk_kept BK.out hK (fun hs => (absurd hs.2 (Nat.lt_irrefl _))))
  replace O6 := Aside0.mk (Kd.R_flat (ok' := fun k_ => P6 k_ ∧ k_ < w.heap.size) (fun h => h) hO6 (fun k_ hk _ => O6.out.1 k_ (by simpa using hk)))
  replace HK := Aside0.mk (HK.out.then_ hK (fun k_ hk => .inl ((.inr hk))))
  replace HB := Aside0.mk hB
  clear hB hK hO6
  go_wp2
  go_ret
  exact ⟨rfl, Kd.S_mono O0.out (fun _ hk => hk.1), Kd.R_mono O6.out (fun _ hk => hk.1), HB.out, HK.out.mono (fun k_ hk => hk.elim (fun hq => (.inl hq.1)) (fun hk' => (.inr hk'.1)))⟩
end Go.Proofs.Ytmkcbbbknbahgaa.P
namespace Go.Proofs.Ytmkcbbbknbahgaa.P
open Go.RowKit Go.Proofs.YtmkcbbbknbahgaaW.PrintWords Go.Proofs.YtmkcbbbknbahgaaW.PrintLast Go.Proofs.YtmkcbbbknbahgaaW.PrintMore
set_option linter.unusedVariables false

/-- A list with a stretch written anew. -/
def over_ {α : Type} (xs : List α) (lo : Nat) (ys : List α) : List α := xs.take lo ++ ys ++ xs.drop (lo + ys.length)

theorem over_length {α : Type} {xs ys : List α} {lo : Nat} (h : lo + ys.length ≤ xs.length) : (over_ xs lo ys).length = xs.length := by
  simp [over_]; omega

theorem over_nil {α : Type} (xs : List α) (lo : Nat) : over_ xs lo [] = xs := by simp [over_]

theorem over_get {α : Type} {xs ys : List α} {lo : Nat} (h : lo + ys.length ≤ xs.length) (j : Nat) : (over_ xs lo ys)[j]? = if lo ≤ j ∧ j < lo + ys.length then ys[j - lo]? else xs[j]? := by
  unfold over_
  by_cases h1 : j < lo
  · rw [if_neg (by omega), List.append_assoc, List.getElem?_append_left (by simp; omega), List.getElem?_take_of_lt h1]
  · by_cases h2 : j < lo + ys.length
    · rw [if_pos (by omega), List.append_assoc, List.getElem?_append_right (by simp; omega), List.getElem?_append_left (by simp; omega)]
      simp only [List.length_take]
      rw [show min lo xs.length = lo by omega]
    · rw [if_neg (by omega), List.getElem?_append_right (by simp; omega)]
      simp only [List.length_append, List.length_take, List.getElem?_drop]
      rw [show lo + ys.length + (j - (min lo xs.length + ys.length)) = j by omega]

theorem over_cons {α : Type} {xs ys : List α} {y : α} {lo : Nat} (h : lo + (ys.length + 1) ≤ xs.length) : over_ xs lo (y :: ys) = over_ (xs.set lo y) (lo + 1) ys := by
  apply List.ext_getElem?
  intro j
  rw [over_get (by simpa using h), over_get (by simp; omega)]
  by_cases h1 : j = lo
  · subst h1
    rw [if_pos (by simp), if_neg (by omega), List.getElem?_set_self (by omega)]
    simp
  · rw [List.getElem?_set_ne (by omega)]
    by_cases h2 : lo ≤ j ∧ j < lo + (y :: ys).length
    · rw [if_pos h2, if_pos (by simp at h2; omega)]
      obtain ⟨m, rfl⟩ : ∃ m, j = lo + 1 + m := ⟨j - (lo + 1), by omega⟩
      rw [show lo + 1 + m - lo = m + 1 by omega, show lo + 1 + m - (lo + 1) = m by omega]
      rfl
    · rw [if_neg h2, if_neg (by simp at h2; omega)]

theorem R_writes {e base g cap : Nat} {ok : Nat → Prop} : ∀ (ys : List Int) (lo : Nat) {W : World} {xs : List Int}, lo + ys.length ≤ xs.length → Kd.R (Kd.int .u8) e W base ok (.slice (some ⟨g, 0, none⟩) xs.length cap) xs →
    Kd.R (Kd.int .u8) e (W.setCells g lo (ys.map (Value.int .u8))) base ok (.slice (some ⟨g, 0, none⟩) xs.length cap) (over_ xs lo ys) ∧ W.grownBy (W.setCells g lo (ys.map (Value.int .u8))) (some g)
  | [], lo, W, xs, _, h => ⟨by rw [over_nil]; exact h, World.grownBy.refl _ _⟩
  | y :: ys, lo, W, xs, hl, h => by
    simp only [List.length_cons] at hl
    obtain ⟨h1, h2⟩ := Kd.R_put (enc := Value.int .u8) (h1 := fun _ => rfl) h (lo : Int) y
    rw [Int.toNat_natCast] at h1 h2
    have := R_writes ys (lo + 1) (W := W.setCell ⟨g, lo, none⟩ (.int .u8 y)) (xs := xs.set lo y) (by simp; omega) (by rw [List.length_set]; exact h1)
    rw [List.length_set] at this
    rw [over_cons hl]
    exact ⟨this.1, h2.trans this.2⟩

/-- The row of an own memory: where it lies, what its cells hold, and what the rows' slice is behind a stretch written anew. -/
theorem S_row {W : World} {base cap : Nat} {ok : Nat → Prop} {ad : Addr} {n : Nat} {m : List (List Int)} (h : Kd.S (Kd.slice 5 (Kd.int .u8)) 29 W base ok (.slice (some ad) n cap) m) (i : Nat) (hi : i < m.length) (hp : 0 < m[i].length) :
    ∃ g c, W.cell? (ad.add i) = some (.slice (some ⟨g, 0, none⟩) m[i].length c) ∧ m[i].length ≤ c ∧ ok g ∧ base ≤ g ∧ g < W.heap.size ∧ (∃ cells, W.heap[g]? = some (.cells cells 5 (0, 0))) ∧
      (∀ j (hj : j < m[i].length), W.cell? ⟨g, j, none⟩ = some (.int .u8 m[i][j]) ∧ W.frozen? ⟨g, j, none⟩ = false) ∧
      (∀ (lo : Nat) (ys : List Int), lo + ys.length ≤ m[i].length → Kd.S (Kd.slice 5 (Kd.int .u8)) 29 (W.setCells g lo (ys.map (Value.int .u8))) base ok (.slice (some ad) n cap) (m.set i (over_ m[i] lo ys)) ∧ W.grownBy (W.setCells g lo (ys.map (Value.int .u8))) (some g)) := by
  have hn : n = m.length := (Kd.S_reads' h).1
  obtain ⟨oki, c, hcl, hM, hcc, hoki, hbk⟩ := Kd.S_borrow h ([] : List Int) (i : Int) (by omega) (by omega)
  obtain ⟨v, rfl, hR⟩ := hM
  have e0 := hcc 0 _ rfl
  rw [show m.getD ((i : Int)).toNat [] = m[i] by rw [Int.toNat_natCast, List.getD_eq_getElem?_getD, List.getElem?_eq_getElem hi]; rfl] at hR
  rw [Int.toNat_natCast, Nat.add_zero, show (Kd.slice 5 (Kd.int .u8)).sz = 1 from rfl, Nat.mul_one] at e0
  have hR' : Kd.R (Kd.int .u8) 5 W base oki v m[i] := hR
  obtain ⟨g, c, rfl, hb, hlt, hcells⟩ := Kd.R_form hR' hp
  have hcap := (Kd.R_reads' hR').2.1
  refine ⟨g, c, e0, hcap, (hoki g (hR'.1 g rfl)).1, hb, hlt, hcells, fun j hj => ?_, fun lo ys hl => ?_⟩
  · have := Kd.R_cell (enc := Value.int .u8) (h1 := fun _ => rfl) (0 : Int) hR' (j : Int) (by omega) (by omega)
    rw [Int.toNat_natCast] at this
    have e1 : rdOf (0 : Int) m[i] (j : Int) = m[i][j] := by
      unfold rdOf
      rw [Int.toNat_natCast, List.getD_eq_getElem?_getD, List.getElem?_eq_getElem hj]; rfl
    rw [e1] at this
    exact this
  · obtain ⟨h1, h2⟩ := R_writes ys lo hl hR'
    have h3 : Kd.R (Kd.int .u8) 5 (W.setCells g lo (ys.map (Value.int .u8))) base oki (.slice (some ⟨g, 0, none⟩) (over_ m[i] lo ys).length c) (over_ m[i] lo ys) := by rw [over_length hl]; exact h1
    refine ⟨?_, h2⟩
    have := hbk (x' := over_ m[i] lo ys) h2 (fun k hk => by cases hk; exact hR'.1 g rfl) ⟨_, by rw [over_length hl], h3⟩
    rw [Int.toNat_natCast] at this
    exact this

theorem below_of_grown {w W W' : World} {b g : Nat} (hb : Below b w W) (h : W.grownBy W' (some g)) (hg : b ≤ g) (hl : b ≤ W.heap.size) : Below b w W' := hb.grown h hl (fun k hk => by cases hk; exact hg)
section
variable {P : Program}

theorem run_clear_bytes (w : World) (t e ty : TypeId) (ht : P.underlying t = some (.slice e)) (hv : ∀ w, (zeroValue e).run P w = .ok (.int .u8 0) w) (b o n c : Nat)
    (hc : ∀ j, j < n → (w.cell? ⟨b, o + j, none⟩).isSome = true) (hf : ∀ j, j < n → w.frozen? ⟨b, o + j, none⟩ = false) :
    (Builtin.clear_ #[t] ty #[.slice (some ⟨b, o, none⟩) n c]).run P w = .ok (.tuple #[]) (w.setCells b o ((List.replicate n (0 : Int)).map (Value.int .u8))) := by
  rcases Nat.eq_zero_or_pos n with rfl | hn
  · simp [Builtin.clear_, run_underlying ht, World.setCells]
  · rw [List.map_replicate]
    exact Lib.run_clear_slice w t e ty (.int .u8 0) ht hv rfl rfl b o n c hn hc hf
end
end Go.Proofs.Ytmkcbbbknbahgaa.P
namespace Go.Proofs.Ytmkcbbbknbahgaa.P
open Go.RowKit Go.Proofs.YtmkcbbbknbahgaaW.PrintWords Go.Proofs.YtmkcbbbknbahgaaW.PrintLast Go.Proofs.YtmkcbbbknbahgaaW.PrintMore
set_option linter.unusedVariables false
set_option linter.unusedSimpArgs false

theorem cell_lt {W : World} {a : Addr} {v : Value} (h : W.cell? a = some v) : a.block < W.heap.size := by
  rcases Nat.lt_or_ge a.block W.heap.size with h' | h'
  · exact h'
  · simp [World.cell?, Array.getElem?_eq_none h'] at h

set_option maxHeartbeats 4000000 in
set_option maxRecDepth 100000 in
theorem impl_Memory_seen.at_ (ad : Addr) (n c : Nat) (a s l cp : Int) (g nn cc : Nat) (w : World) (hcell : w.cell? (ad.add a.toNat) = some (.slice (some ⟨g, 0, none⟩) nn cc)) (h0 : 0 ≤ a) (h1 : a < (n : Int)) (h2 : 0 ≤ s) (h3 : 0 ≤ l) (h4 : s + l ≤ (cc : Int)) (h5 : s + l ≤ 9223372036854775807) :
    Calls Try.prog 107 #[.agg #[.slice (some ad) n c], .agg #[.int .i64 a, .int .i64 s, .int .i64 l, .int .i64 cp]] w fun e w' => e = .returned (.slice (some ⟨g, if cc = s.toNat then 0 else s.toNat, none⟩) l.toNat (cc - s.toNat)) ∧ Below w.heap.size w w' := by
  have hu1 := Try.underlying31
  have hu2 := Try.underlying32
  have e1 : wrap64 (s + l) = s + l := by unfold wrap64; omega
  go_enter Try.func107, Try.ntmps107
  go_wp2_with fail
  have HA := Below.alloc (Below.alloc (Below.refl w.heap.size w) (Nat.le_refl _) (.cells #[.slice (some ad) n c] 31)) (by simp) (.cells #[.int .i64 a, .int .i64 s, .int .i64 l, .int .i64 cp] 32)
  have BK2 := heap_alloc_new (w.alloc (.cells #[.slice (some ad) n c] 31)) (.cells #[.int .i64 a, .int .i64 s, .int .i64 l, .int .i64 cp] 32)
  have BK1 := blk_below (heap_alloc_new w (.cells #[.slice (some ad) n c] 31)) (Below.alloc (Below.refl _ _) (Nat.le_refl _) (.cells #[.int .i64 a, .int .i64 s, .int .i64 l, .int .i64 cp] 32))
  have hlt : (ad.add a.toNat).block < w.heap.size := cell_lt hcell
  have hc2 := (World.cell?_of_block (a := ad.add a.toNat) (HA.block _ hlt)).trans hcell
  clear hcell
  rw [show (w.alloc (.cells #[.slice (some ad) n c] 31)).heap.size = w.heap.size + 1 by simp] at *
  generalize (w.alloc (.cells #[.slice (some ad) n c] 31)).alloc (.cells #[.int .i64 a, .int .i64 s, .int .i64 l, .int .i64 cp] 32) = w2 at *
  have z1 : w2.cell? ⟨w.heap.size, 0, none⟩ = some (.slice (some ad) n c) := (blk_cell BK1 0).trans rfl
  have z2 : w2.cell? ⟨w.heap.size + 1, 0, none⟩ = some (.int .i64 a) := (blk_cell BK2 0).trans rfl
  have z3 : w2.cell? ⟨w.heap.size + 1, 1, none⟩ = some (.int .i64 s) := (blk_cell BK2 1).trans rfl
  have z4 : w2.cell? ⟨w.heap.size + 1, 2, none⟩ = some (.int .i64 l) := (blk_cell BK2 2).trans rfl
  have d1 : decide (0 ≤ a) = true := decide_eq_true h0
  have d2 : decide (a < (n : Int)) = true := decide_eq_true h1
  have d3 : decide (0 ≤ s) = true := decide_eq_true h2
  have d4 : decide (s ≤ wrap64 (s + l)) = true := decide_eq_true (by omega)
  have d5 : decide (wrap64 (s + l) ≤ (cc : Int)) = true := decide_eq_true (by omega)
  have t0 := eq_true h0
  have t1 := eq_true h1
  have t3 := eq_true h2
  have t4 := eq_true (show s ≤ wrap64 (s + l) by omega)
  have t5 := eq_true (show wrap64 (s + l) ≤ (cc : Int) by omega)
  go_quiet (fail)
  go_wp2_with fail
  all_goals go_ret
  · have hcs := h
    refine ⟨?_, (by repeat (first | exact HA | apply below_alloc | apply pw_below_drewN | apply below_drew1))⟩
    first | (rw [show l.toNat = (s + l).toNat - s.toNat by omega]; rfl) | (rw [show cc - s.toNat = 0 by omega, show l.toNat = (s + l).toNat - s.toNat by omega]; rfl)
  · have hcs := h
    refine ⟨?_, (by repeat (first | exact HA | apply below_alloc | apply pw_below_drewN | apply below_drew1))⟩
    rw [show l.toNat = (s + l).toNat - s.toNat by omega]
    rfl
end Go.Proofs.Ytmkcbbbknbahgaa.P
namespace Go.Proofs.Ytmkcbbbknbahgaa.P
open Go.RowKit Go.Proofs.YtmkcbbbknbahgaaW.PrintWords Go.Proofs.YtmkcbbbknbahgaaW.PrintLast Go.Proofs.YtmkcbbbknbahgaaW.PrintMore
set_option linter.unusedVariables false

/-- From some number of rounds on, F tells r. -/
def Ter {α : Type} (F : Nat → Option α) (r : α) : Prop := ∃ K, ∀ k, K ≤ k → F k = some r

theorem Ter.const {α : Type} {o : Option α} {r : α} (h : o = some r) : Ter (fun _ => o) r := ⟨0, fun _ _ => h⟩

theorem Ter.ret {α : Type} (r : α) : Ter (fun _ => some r) r := ⟨0, fun _ _ => rfl⟩

theorem Ter.succ {α : Type} {F : Nat → Option α} {r : α} (h : Ter (fun k => F (k + 1)) r) : Ter F r := by
  obtain ⟨K, h⟩ := h
  refine ⟨K + 1, fun k hk => ?_⟩
  obtain ⟨j, rfl⟩ : ∃ j, k = j + 1 := ⟨k - 1, by omega⟩
  exact h j (by omega)

theorem Ter.bind {α β : Type} {F : Nat → Option α} {G : Nat → α → Option β} {a : α} {b : β} (h1 : Ter F a) (h2 : Ter (fun k => G k a) b) : Ter (fun k => (F k).bind (G k)) b := by
  obtain ⟨K1, h1⟩ := h1
  obtain ⟨K2, h2⟩ := h2
  refine ⟨K1 + K2, fun k hk => ?_⟩
  show (F k).bind (G k) = _
  rw [h1 k (by omega)]
  exact h2 k (by omega)

theorem Ter.ifp {α : Type} {c : Prop} [Decidable c] {F G : Nat → Option α} {r : α} (h : c) (h1 : Ter F r) : Ter (fun k => if c then F k else G k) r := by
  simp only [if_pos h]
  exact h1

theorem Ter.ifn {α : Type} {c : Prop} [Decidable c] {F G : Nat → Option α} {r : α} (h : ¬ c) (h1 : Ter G r) : Ter (fun k => if c then F k else G k) r := by
  simp only [if_neg h]
  exact h1

theorem Ter.congr {α : Type} {F G : Nat → Option α} {r : α} (h : ∀ k, F k = G k) (h1 : Ter G r) : Ter F r := by
  obtain ⟨K, h1⟩ := h1
  exact ⟨K, fun k hk => (h k).trans (h1 k hk)⟩

theorem Ter.eq {α : Type} {F : Nat → Option α} {r s : α} (h : Ter F r) (e : r = s) : Ter F s := e ▸ h

theorem Ter.at {α : Type} {F : Nat → Option α} {r : α} (h : Ter F r) : ∃ K, ∀ k, K ≤ k → F k = some r := h

/-- Down from the last index. -/
theorem down_ {Q : Nat → Prop} (n : Nat) (fin : Q n) (step : ∀ i, i < n → Q (i + 1) → Q i) : ∀ i, i ≤ n → Q i := by
  have h : ∀ j i, i + j = n → Q i := by
    intro j
    induction j with
    | zero => intro i h; have : i = n := by omega
              exact this ▸ fin
    | succ j ih => intro i h; exact step i (by omega) (ih (i + 1) (by omega))
  intro i hi
  exact h (n - i) i (by omega)

theorem w64 {n : Int} (h0 : -9223372036854775808 ≤ n) (h1 : n ≤ 9223372036854775807) : wrap64 n = n := by unfold wrap64; omega

theorem w64s {i n : Nat} (h : i < n) (hn : n ≤ 9223372036854775807) : wrap64 ((i : Int) + 1) = ((i + 1 : Nat) : Int) := by
  rw [w64 (by omega) (by omega)]
  omega

theorem maxLen_ : maxLen = 9223372036854775807 := rfl

theorem getD_at {α : Type} {xs : List α} {d : α} {i : Nat} (h : i < xs.length) : xs.getD ((i : Int)).toNat d = xs[i] := by
  rw [Int.toNat_natCast, List.getD_eq_getElem?_getD, List.getElem?_eq_getElem h]
  rfl

theorem rd_at {xs : List Int} {i : Nat} (h : i < xs.length) : rd xs (i : Int) = xs[i] := getD_at h

theorem fill_set {α : Type} {xs : List α} {z : α} {i : Nat} (h : i < xs.length) : (xs.take i ++ List.replicate (xs.length - i) z).set ((i : Int)).toNat xs[i] = xs.take (i + 1) ++ List.replicate (xs.length - (i + 1)) z := by
  rw [Int.toNat_natCast]
  apply List.ext_getElem?
  intro j
  by_cases hj : j = i
  · subst hj
    rw [List.getElem?_set_self (by simp; omega), List.getElem?_append_left (by simp; omega), List.getElem?_take_of_lt (by omega), List.getElem?_eq_getElem h]
  · rw [List.getElem?_set_ne (by omega)]
    by_cases h1 : j < i
    · rw [List.getElem?_append_left (by simp; omega), List.getElem?_append_left (by simp; omega), List.getElem?_take_of_lt h1, List.getElem?_take_of_lt (by omega)]
    · rw [List.getElem?_append_right (by simp; omega), List.getElem?_append_right (by simp; omega)]
      simp only [List.length_take, List.getElem?_replicate]
      rw [show min i xs.length = i by omega, show min (i + 1) xs.length = i + 1 by omega]
      by_cases h2 : j < xs.length
      · rw [if_pos (by omega), if_pos (by omega)]
      · rw [if_neg (by omega), if_neg (by omega)]

theorem fill_len {α : Type} {xs : List α} {z : α} {i : Nat} (h : i ≤ xs.length) : (xs.take i ++ List.replicate (xs.length - i) z).length = xs.length := by
  simp
  omega

theorem fill_all {α : Type} {xs : List α} {z : α} : xs.take xs.length ++ List.replicate (xs.length - xs.length) z = xs := by simp

theorem take_one {α : Type} {xs : List α} {i : Nat} (h : i < xs.length) : xs.take i ++ [xs[i]] = xs.take (i + 1) := by
  rw [List.take_add_one, List.getElem?_eq_getElem h]
  rfl
end Go.Proofs.Ytmkcbbbknbahgaa.P
namespace Go.Proofs.Ytmkcbbbknbahgaa.P
open Go.RowKit Go.Proofs.YtmkcbbbknbahgaaW.PrintWords Go.Proofs.YtmkcbbbknbahgaaW.PrintLast Go.Proofs.YtmkcbbbknbahgaaW.PrintMore
attribute [local go_sem] max2_int min2_int max_two min_two max_three min_three max_four min_four   -- for this text's walks alone
set_option linter.unusedVariables false
set_option linter.unusedSimpArgs false

def impl_within.f (a0 : Int) (a1 : Int) (a2 : Int) : Option (Bool) := if a0 ≥ a1 then (some (decide (a0 ≤ a2))) else (some false)

set_option maxHeartbeats 8000000 in
set_option maxRecDepth 100000 in
theorem impl_within.calls (a0 : Int) (a1 : Int) (a2 : Int) (r : Bool) (w : World) (h : impl_within.f a0 a1 a2 = some r) :
  Calls Try.prog 123 #[.int .i64 a0, .int .i64 a1, .int .i64 a2] w fun e w' => e = .returned (.bool r) ∧ Drawn0 w w' := by
 have H : (if a0 ≥ a1 then (some (decide (a0 ≤ a2))) else (some false)) = some r := h
 clear h
 by_cases c4 : a0 ≥ a1
 ·rw [if_pos c4] at H
  have c4b0 : decide (a1 ≤ a0) = true := decide_eq_true c4
  clear c4
  obtain rfl := Option.some.inj H
  go_enter Try.func123, Try.ntmps123
  go_wp2
  go_ret
  exact ⟨by first | rfl | (simp; done) | (simp [*]; done), by repeat (first | exact Drawn0.refl _ | apply Drawn0.step)⟩
 ·rw [if_neg c4] at H
  have c4b0 : decide (a1 ≤ a0) = false := decide_eq_false c4
  clear c4
  obtain rfl := Option.some.inj H
  go_enter Try.func123, Try.ntmps123
  go_wp2
  go_ret
  exact ⟨by first | rfl | (simp; done) | (simp [*]; done), by repeat (first | exact Drawn0.refl _ | apply Drawn0.step)⟩
end Go.Proofs.Ytmkcbbbknbahgaa.P
namespace Go.Proofs.Ytmkcbbbknbahgaa.P
open Go.RowKit Go.Proofs.YtmkcbbbknbahgaaW.PrintWords Go.Proofs.YtmkcbbbknbahgaaW.PrintLast Go.Proofs.YtmkcbbbknbahgaaW.PrintMore
attribute [local go_sem] max2_int min2_int max_two min_two max_three min_three max_four min_four   -- for this text's walks alone
set_option linter.unusedVariables false
set_option linter.unusedSimpArgs false

def impl_Memory_hasArray.f (l0_0 : List (List Int)) (a1 : Int) : Option (Bool) := (impl_within.f a1 0 (wrap64 ((l0_0.length : Int) - 1))).bind fun t102 => (some t102)

set_option maxHeartbeats 8000000 in
set_option maxRecDepth 100000 in
theorem impl_Memory_hasArray.calls (A0_0 : Option Addr) (c0_0 : Nat) (l0_0 : List (List Int)) (a1 : Int) (r : Bool) (w : World) (hr0_0 : Kd.C (Kd.slice 5 (Kd.int .u8)) w A0_0 l0_0.length l0_0) (hc0_0 : l0_0.length ≤ c0_0) (h : impl_Memory_hasArray.f l0_0 a1 = some r) :
  Calls Try.prog 204 #[.agg #[.slice A0_0 l0_0.length c0_0], .int .i64 a1] w fun e w' => e = .returned (.bool r) ∧ Below w.heap.size w w' := by
 have hu31 := Try.underlying31
 have HR0_0 := Aside0.mk hr0_0
 have HC0_0 := Aside0.mk hc0_0
 clear hr0_0 hc0_0
 have HB := Aside0.mk (Below.refl w.heap.size w)
 have H : ((impl_within.f a1 0 (wrap64 ((l0_0.length : Int) - 1))).bind fun t102 => (some t102)) = some r := h
 clear h
 replace H := Option.bind_eq_some_iff.mp H
 obtain ⟨t102, A30, H⟩ := H
 replace H : (some t102) = some r := H
 have A3 := Aside0.mk A30
 clear A30
 obtain rfl := Option.some.inj H
 go_enter Try.func204, Try.ntmps204
 go_wp2_with (first | ((with_reducible refine gate_dst (N := 2) rfl ?_); refine box_event ?hg (N := 2) ?hd (cs := #[.slice A0_0 l0_0.length c0_0]) (t := 31) ?hr ?_; (case hd => rfl); (case hg => rfl); (case hr => exact gs_); intro gb101 hg w4 hbox hb; have BK101 := Aside0.mk (hbox); have GW101 := gE_ HB hg; have GE101 := gE_ HB hg; replace HB := Aside0.mk (below_step (by repeat (first | (with_reducible first | exact HB.out | apply ba_ | apply bn_ | apply bd_) | exact HB.out)) hb); clear hb hbox hg; obtain ⟨hcz5_0, hfz5_0⟩ := zc1_ BK101) | ((with_reducible refine gate_callee (f := 123) rfl ?_); refine goesL_ (some 10) rfl rfl Try.func123 (by kernel_rfl) rfl #[.int .i64 a1, .int .i64 0, .int .i64 (wrap64 ((l0_0.length : Int) - 1))] rfl ar_ ?_; (with_reducible refine (impl_within.calls a1 0 (wrap64 ((l0_0.length : Int) - 1)) t102 _ A3.out).mono ?_); rintro e w' ⟨rfl, ⟨nd, rfl⟩⟩; refine ⟨_, rfl, ?_⟩))
 go_ret
 exact ⟨er_, by repeat (first | (with_reducible first | exact HB.out | apply below_alloc | apply pw_below_drewN | apply below_drew1 | refine below_set ?_ GE101.out) | exact HB.out)⟩
end Go.Proofs.Ytmkcbbbknbahgaa.P
namespace Go.Proofs.Ytmkcbbbknbahgaa.P
open Go.RowKit Go.Proofs.YtmkcbbbknbahgaaW.PrintWords Go.Proofs.YtmkcbbbknbahgaaW.PrintLast Go.Proofs.YtmkcbbbknbahgaaW.PrintMore
attribute [local go_sem] max2_int min2_int max_two min_two max_three min_three max_four min_four   -- for this text's walks alone
set_option linter.unusedVariables false
set_option linter.unusedSimpArgs false

def impl_Memory_hasWindow.f (l0_0 : List (List Int)) (a1_0 : Int) (a1_1 : Int) (a1_2 : Int) (a1_3 : Int) : Option (Bool) := (impl_Memory_hasArray.f l0_0 a1_0).bind fun t105 => (if t105 = true then ((impl_within.f a1_3 0 64).bind fun t106 => (if t106 = true then ((impl_within.f a1_2 0 a1_3).bind fun t107 => (if t107 = true then (if 0 ≤ a1_0 then (if a1_0 < (l0_0.length : Int) then ((impl_within.f a1_1 0 (wrap64 (((rd_L1 l0_0 a1_0).length : Int) - a1_3))).bind fun t109 => (some t109)) else (none)) else (none)) else (some false))) else (some false))) else (some false))

def impl_Memory_hasWindow.T1 : Bool × List (List Nat × List Nat) := (true, [([], []), ([], []), ([1], [1]), ([0, 2], [0, 2]), ([3, 3], [3]), ([4], [4]), ([5, 4], [4, 5]), ([6, 4, 4], [4, 6]), ([4, 7], [4, 7]), ([8, 7], [8]), ([9], [9]), ([10, 9], [9, 10]), ([9], [9]), ([12, 9], [9, 12]), ([11, 13, 9, 9], [9, 11, 13]), ([9, 14], [9, 14]), ([15, 14], [15]), ([16], [16]), ([17, 16], [16, 17]), ([16], [16]), ([19, 16], [16, 19]), ([16], [16]), ([21, 16], [16, 21]), ([20, 22, 16], [16, 20, 22]), ([23, 16], [16, 23]), ([24, 16], [16, 24]), ([16], [16]), ([26, 16], [16, 26]), ([25, 27, 16], [16, 25, 27]), ([18, 28, 16, 16], [16, 18, 28]), ([16, 29], [16, 29]), ([30, 29, 0, 1, 2, 3, 4, 5, 6, 7, 8, 9, 10, 11, 12, 13, 14, 15, 16, 17, 18, 19, 20, 21, 22, 23, 24, 25, 26, 27, 28, 29, 30], [30])])

def impl_Memory_hasWindow.B1 : List Nat := [0, 0, 2, 7, 15, 31, 63, 127, 255, 511, 1023, 2047, 1023, 5119, 16383, 32767, 65535, 131071, 262143, 131071, 655359, 131071, 2228223, 7995391, 16383999, 33161215, 131071, 67239935, 268042239, 536870911, 1073741823, 2147483647]

theorem impl_Memory_hasWindow.tab1 : rtab .any (opsOf Try.f188 1) = impl_Memory_hasWindow.T1 := by kernel_rfl

theorem impl_Memory_hasWindow.bits1 : waitsOk impl_Memory_hasWindow.T1.2 impl_Memory_hasWindow.B1 = true := by kernel_rfl

set_option maxHeartbeats 8000000 in
set_option maxRecDepth 100000 in
theorem impl_Memory_hasWindow.calls (A0_0 : Option Addr) (c0_0 : Nat) (l0_0 : List (List Int)) (a1_0 : Int) (a1_1 : Int) (a1_2 : Int) (a1_3 : Int) (r : Bool) (w : World) (hr0_0 : Kd.C (Kd.slice 5 (Kd.int .u8)) w A0_0 l0_0.length l0_0) (hc0_0 : l0_0.length ≤ c0_0) (h : impl_Memory_hasWindow.f l0_0 a1_0 a1_1 a1_2 a1_3 = some r) :
  Calls Try.prog 188 #[.agg #[.slice A0_0 l0_0.length c0_0], .agg #[.int .i64 a1_0, .int .i64 a1_1, .int .i64 a1_2, .int .i64 a1_3]] w fun e w' => e = .returned (.bool r) ∧ Below w.heap.size w w' := by
 have hu31 := Try.underlying31
 have hu32 := Try.underlying32
 have HR0_0 := Aside0.mk hr0_0
 have HC0_0 := Aside0.mk hc0_0
 clear hr0_0 hc0_0
 have HB := Aside0.mk (Below.refl w.heap.size w)
 have H : ((impl_Memory_hasArray.f l0_0 a1_0).bind fun t105 => (if t105 = true then ((impl_within.f a1_3 0 64).bind fun t106 => (if t106 = true then ((impl_within.f a1_2 0 a1_3).bind fun t107 => (if t107 = true then (if 0 ≤ a1_0 then (if a1_0 < (l0_0.length : Int) then ((impl_within.f a1_1 0 (wrap64 (((rd_L1 l0_0 a1_0).length : Int) - a1_3))).bind fun t109 => (some t109)) else (none)) else (none)) else (some false))) else (some false))) else (some false))) = some r := h
 clear h
 replace H := Option.bind_eq_some_iff.mp H
 obtain ⟨t105, A30, H⟩ := H
 replace H : (if t105 = true then ((impl_within.f a1_3 0 64).bind fun t106 => (if t106 = true then ((impl_within.f a1_2 0 a1_3).bind fun t107 => (if t107 = true then (if 0 ≤ a1_0 then (if a1_0 < (l0_0.length : Int) then ((impl_within.f a1_1 0 (wrap64 (((rd_L1 l0_0 a1_0).length : Int) - a1_3))).bind fun t109 => (some t109)) else (none)) else (none)) else (some false))) else (some false))) else (some false)) = some r := H
 have A3 := Aside0.mk A30
 clear A30
 by_cases c4 : t105 = true
 ·subst c4
  rw [if_pos rfl] at H
  replace H := Option.bind_eq_some_iff.mp H
  obtain ⟨t106, A50, H⟩ := H
  replace H : (if t106 = true then ((impl_within.f a1_2 0 a1_3).bind fun t107 => (if t107 = true then (if 0 ≤ a1_0 then (if a1_0 < (l0_0.length : Int) then ((impl_within.f a1_1 0 (wrap64 (((rd_L1 l0_0 a1_0).length : Int) - a1_3))).bind fun t109 => (some t109)) else (none)) else (none)) else (some false))) else (some false)) = some r := H
  have A5 := Aside0.mk A50
  clear A50
  by_cases c6 : t106 = true
  ·subst c6
   rw [if_pos rfl] at H
   replace H := Option.bind_eq_some_iff.mp H
   obtain ⟨t107, A70, H⟩ := H
   replace H : (if t107 = true then (if 0 ≤ a1_0 then (if a1_0 < (l0_0.length : Int) then ((impl_within.f a1_1 0 (wrap64 (((rd_L1 l0_0 a1_0).length : Int) - a1_3))).bind fun t109 => (some t109)) else (none)) else (none)) else (some false)) = some r := H
   have A7 := Aside0.mk A70
   clear A70
   by_cases c8 : t107 = true
   ·subst c8
    rw [if_pos rfl] at H
    by_cases c9 : 0 ≤ a1_0
    ·rw [if_pos c9] at H
     have c9b0 : decide (0 ≤ a1_0) = true := decide_eq_true c9
     clear c9
     by_cases c10 : a1_0 < (l0_0.length : Int)
     ·rw [if_pos c10] at H
      have c10b0 : decide (a1_0 < (l0_0.length : Int)) = true := decide_eq_true c10
      clear c10
      replace H := Option.bind_eq_some_iff.mp H
      obtain ⟨t109, A110, H⟩ := H
      replace H : (some t109) = some r := H
      have A11 := Aside0.mk A110
      clear A110
      obtain rfl := Option.some.inj H
      go_enter Try.func188, Try.ntmps188
      try go_wp2_with (first | ((with_reducible refine gate_dst (N := 2) rfl ?_); (try (refine gate_guard (by rfl) ?_; dsimp only)); refine box_event ?hg (N := 2) ?hd (cs := #[.slice A0_0 l0_0.length c0_0]) (t := 31) ?hr ?_; (case hd => rfl); (case hg => rfl); (case hr => exact gs_); intro gb103 hg w12 hbox hb; have BK103 := Aside0.mk (hbox); have GW103 := gE_ HB hg; have GE103 := gE_ HB hg; replace HB := Aside0.mk (below_step (by repeat (first | (with_reducible first | exact HB.out | apply ba_ | apply bn_ | apply bd_) | exact HB.out)) hb); clear hb hbox hg) | ((with_reducible refine gate_dst (N := 3) rfl ?_); (try (refine gate_guard (by rfl) ?_; dsimp only)); refine box_event ?hg (N := 3) ?hd (cs := #[.int .i64 a1_0, .int .i64 a1_1, .int .i64 a1_2, .int .i64 a1_3]) (t := 32) ?hr ?_; (case hd => rfl); (case hg => rfl); (case hr => exact gs_); intro gb104 hg w13 hbox hb; have BK104 := Aside0.mk (hbox); have GW104 := gE_ HB hg; have GE104 := gE_ HB hg; replace HB := Aside0.mk (below_step (by repeat (first | (with_reducible first | exact HB.out | apply ba_ | apply bn_ | apply bd_ | refine bset_ ?_ (by assumption)) | exact HB.out)) hb); have NB103_104 := nB_ BK103 hg; have NB104_103 := nA_ BK103 hg; replace BK103 := bB_ BK103 hb; clear hb hbox hg))
      replace BK103 := Aside0.mk (blk_drew BK103.out)
      replace BK104 := Aside0.mk (blk_drew BK104.out)
      replace HB := Aside0.mk (below_drew1 HB.out)
      have p108 : 0 ≤ (a1_0 : Int) := of_decide_eq_true as_
      have q108 : a1_0 < (l0_0.length : Int) := of_decide_eq_true as_
      obtain ⟨ad108, A108_0, c108_0, e108, hx108_0, hl108_0, hi108_0⟩ := at_L1 HR0_0.out a1_0 p108 q108
      have hw108_0 := hx108_0
      cases e108
      replace hx108_0 := (HB.out.cell (World.block_lt_of_cell? w _ hx108_0)).trans hx108_0
      have HR108_0 := Aside0.mk hi108_0
      have HC108_0 := Aside0.mk hl108_0
      clear hi108_0 hl108_0
      replace p108 := eq_true p108
      replace q108 := eq_true q108
      refine start_ (n := 32) (S := fun w' => w'.cell? ⟨gb103, 0, none⟩ = some (.slice (some ad108) l0_0.length c0_0) ∧ w'.cell? ⟨gb104, 0, none⟩ = some (.int .i64 a1_0) ∧ w'.cell? ⟨gb104, 1, none⟩ = some (.int .i64 a1_1) ∧ w'.cell? ⟨gb104, 2, none⟩ = some (.int .i64 a1_2) ∧ w'.cell? ⟨gb104, 3, none⟩ = some (.int .i64 a1_3) ∧ w'.cell? (ad108.add (a1_0).toNat) = some (.slice A108_0 (rd_L1 l0_0 a1_0).length c108_0)) (ds := []) #[false, false, false, false, false, false, false, false, false, false, false, false, false, false, false, false, false, false, false, false, false, false, false, false, false, false, false, false, false, false, false, false] (by kernel_rfl) rfl rfl ⟨(blk_cell BK103.out 0).trans rfl, (blk_cell BK104.out 0).trans rfl, (blk_cell BK104.out 1).trans rfl, (blk_cell BK104.out 2).trans rfl, (blk_cell BK104.out 3).trans rfl, ((HB.out.cell (World.block_lt_of_cell? w _ hw108_0)).trans hw108_0)⟩ (fun hHeld => ?_); refine with_tabW impl_Memory_hasWindow.tab1 impl_Memory_hasWindow.bits1 (fun HT_ HW_ => ?_)
      generalize w13.drew = w14 at BK103 BK104 HB HR108_0 hx108_0 hHeld ⊢
      refine pure_ (i := 1) (N := some 6) (v := ?_) (a' := ?_) #[false, true, false, false, false, false, false, false, false, false, false, false, false, false, false, false, false, false, false, false, false, false, false, false, false, false, false, false, false, false, false, false] rfl rfl (any_of HT_.out (by kernel_rfl)) (fun _ _ _ h => h) (Or.inl ⟨by rfl, ?_⟩) ?_ ?_
      rotate_left
      ·intro w'
       go_simp
       with_reducible rfl
      rotate_left
      ·simp only [Act.put, List.setIfInBounds_toArray, List.set_cons_zero, List.set_cons_succ, i64_w, i32_w]
       rfl
      refine take_ (i := 0) (N := some 5) (v := ?_) (a' := ?_) #[true, true, false, false, false, false, false, false, false, false, false, false, false, false, false, false, false, false, false, false, false, false, false, false, false, false, false, false, false, false, false, false] rfl rfl (take_ofW HT_.out HW_.out (by kernel_rfl)) (fun _ _ _ h => h) (Or.inl ⟨by rfl, ?_⟩) hHeld ?_ ?_
      rotate_left
      ·rintro w' ⟨s0, s1, s2, s3, s4, s5⟩
       go_simp
       with_reducible rfl
      rotate_left
      ·simp only [Act.put, List.setIfInBounds_toArray, List.set_cons_zero, List.set_cons_succ, i64_w, i32_w]
       rfl
      refine take_ (i := 2) (N := some 7) (v := ?_) (a' := ?_) #[true, true, true, false, false, false, false, false, false, false, false, false, false, false, false, false, false, false, false, false, false, false, false, false, false, false, false, false, false, false, false, false] rfl rfl (take_ofW HT_.out HW_.out (by kernel_rfl)) (fun _ _ _ h => h) (Or.inl ⟨by rfl, ?_⟩) hHeld ?_ ?_
      rotate_left
      ·rintro w' ⟨s0, s1, s2, s3, s4, s5⟩
       go_simp
       with_reducible rfl
      rotate_left
      ·simp only [Act.put, List.setIfInBounds_toArray, List.set_cons_zero, List.set_cons_succ, i64_w, i32_w]
       rfl
      refine one_ (i := 3) (N := some 8) #[true, true, true, true, false, false, false, false, false, false, false, false, false, false, false, false, false, false, false, false, false, false, false, false, false, false, false, false, false, false, false, false] rfl rfl (one_of HT_.out (by kernel_rfl)) (by decide) (fun K hK => ?_)
      refine goes_ Try.func204 (by kernel_rfl) rfl #[.agg #[.slice (some ad108) l0_0.length c0_0], .int .i64 a1_0] (by rfl) rfl rfl ar_ ?_
      with_reducible refine (impl_Memory_hasArray.calls _ _ l0_0 a1_0 true _ ?side1 ?side2 A3.out).mono ?_
      (case side1 => exact cS_ (Kd.C_below HR0_0.out HB.out))
      (case side2 => exact HC0_0.out)
      rintro e w15 ⟨rfl, hb⟩
      refine ⟨_, rfl, ?_⟩
      replace BK103 := bB_ BK103 hb
      replace BK104 := bB_ BK104 hb
      replace HB := Aside0.mk (below_step (by repeat (first | (with_reducible first | exact HB.out | apply ba_ | apply bn_ | apply bd_ | refine bset_ ?_ (by assumption)) | exact HB.out)) hb)
      (try clear hb)
      (try clear hb2)
      (try clear hk)
      (try clear hi)
      refine hK.out _ _ ⟨(blk_cell BK103.out 0).trans rfl, (blk_cell BK104.out 0).trans rfl, (blk_cell BK104.out 1).trans rfl, (blk_cell BK104.out 2).trans rfl, (blk_cell BK104.out 3).trans rfl, ((HB.out.cell (World.block_lt_of_cell? w _ hw108_0)).trans hw108_0)⟩ (fun hHeld => ?_)
      clear hK K
      refine norm_ (a' := ?_) ?_ ?_
      rotate_left
      ·show Act.put _ (some 8) _ = _
       simp only [Act.put, List.setIfInBounds_toArray, List.set_cons_zero, List.set_cons_succ, i64_w, i32_w]
       rfl
      refine pure_ (i := 4) (N := some 9) (v := ?_) (a' := ?_) #[true, true, true, true, true, false, false, false, false, false, false, false, false, false, false, false, false, false, false, false, false, false, false, false, false, false, false, false, false, false, false, false] rfl rfl (any_of HT_.out (by kernel_rfl)) (fun _ _ _ h => h) (Or.inl ⟨by rfl, ?_⟩) ?_ ?_
      rotate_left
      ·intro w'
       go_simp
       with_reducible rfl
      rotate_left
      ·simp only [Act.put, List.setIfInBounds_toArray, List.set_cons_zero, List.set_cons_succ, i64_w, i32_w]
       rfl
      refine pure_ (i := 5) (N := some 10) (v := ?_) (a' := ?_) #[true, true, true, true, true, true, false, false, false, false, false, false, false, false, false, false, false, false, false, false, false, false, false, false, false, false, false, false, false, false, false, false] rfl rfl (any_of HT_.out (by kernel_rfl)) (fun _ _ _ h => h) (Or.inl ⟨by rfl, ?_⟩) ?_ ?_
      rotate_left
      ·intro w'
       go_simp
       with_reducible rfl
      rotate_left
      ·simp only [Act.put, List.setIfInBounds_toArray, List.set_cons_zero, List.set_cons_succ, i64_w, i32_w]
       rfl
      refine take_ (i := 6) (N := some 11) (v := ?_) (a' := ?_) #[true, true, true, true, true, true, true, false, false, false, false, false, false, false, false, false, false, false, false, false, false, false, false, false, false, false, false, false, false, false, false, false] rfl rfl (take_ofW HT_.out HW_.out (by kernel_rfl)) (fun _ _ _ h => h) (Or.inl ⟨by rfl, ?_⟩) hHeld ?_ ?_
      rotate_left
      ·rintro w' ⟨s0, s1, s2, s3, s4, s5⟩
       go_simp
       with_reducible rfl
      rotate_left
      ·simp only [Act.put, List.setIfInBounds_toArray, List.set_cons_zero, List.set_cons_succ, i64_w, i32_w]
       rfl
      refine one_ (i := 7) (N := some 12) #[true, true, true, true, true, true, true, true, false, false, false, false, false, false, false, false, false, false, false, false, false, false, false, false, false, false, false, false, false, false, false, false] rfl rfl (one_of HT_.out (by kernel_rfl)) (by decide) (fun K hK => ?_)
      refine goes_ Try.func123 (by kernel_rfl) rfl #[.int .i64 a1_3, .int .i64 0, .int .i64 64] (by rfl) rfl rfl ar_ ?_
      with_reducible refine (impl_within.calls a1_3 0 64 true _ A5.out).mono ?_
      rintro e w' ⟨rfl, ⟨nd, rfl⟩⟩
      refine ⟨_, rfl, ?_⟩
      refine hK.out _ _ ⟨(blk_cell BK103.out 0).trans rfl, (blk_cell BK104.out 0).trans rfl, (blk_cell BK104.out 1).trans rfl, (blk_cell BK104.out 2).trans rfl, (blk_cell BK104.out 3).trans rfl, ((HB.out.cell (World.block_lt_of_cell? w _ hw108_0)).trans hw108_0)⟩ (fun hHeld => ?_)
      clear hK K
      refine norm_ (a' := ?_) ?_ ?_
      rotate_left
      ·show Act.put _ (some 12) _ = _
       simp only [Act.put, List.setIfInBounds_toArray, List.set_cons_zero, List.set_cons_succ, i64_w, i32_w]
       rfl
      refine pure_ (i := 8) (N := some 13) (v := ?_) (a' := ?_) #[true, true, true, true, true, true, true, true, true, false, false, false, false, false, false, false, false, false, false, false, false, false, false, false, false, false, false, false, false, false, false, false] rfl rfl (any_of HT_.out (by kernel_rfl)) (fun _ _ _ h => h) (Or.inl ⟨by rfl, ?_⟩) ?_ ?_
      rotate_left
      ·intro w'
       go_simp
       with_reducible rfl
      rotate_left
      ·simp only [Act.put, List.setIfInBounds_toArray, List.set_cons_zero, List.set_cons_succ, i64_w, i32_w]
       rfl
      refine pure_ (i := 9) (N := some 14) (v := ?_) (a' := ?_) #[true, true, true, true, true, true, true, true, true, true, false, false, false, false, false, false, false, false, false, false, false, false, false, false, false, false, false, false, false, false, false, false] rfl rfl (any_of HT_.out (by kernel_rfl)) (fun _ _ _ h => h) (Or.inl ⟨by rfl, ?_⟩) ?_ ?_
      rotate_left
      ·intro w'
       go_simp
       with_reducible rfl
      rotate_left
      ·simp only [Act.put, List.setIfInBounds_toArray, List.set_cons_zero, List.set_cons_succ, i64_w, i32_w]
       rfl
      refine pure_ (i := 10) (N := some 15) (v := ?_) (a' := ?_) #[true, true, true, true, true, true, true, true, true, true, true, false, false, false, false, false, false, false, false, false, false, false, false, false, false, false, false, false, false, false, false, false] rfl rfl (any_of HT_.out (by kernel_rfl)) (fun _ _ _ h => h) (Or.inl ⟨by rfl, ?_⟩) ?_ ?_
      rotate_left
      ·intro w'
       go_simp
       with_reducible rfl
      rotate_left
      ·simp only [Act.put, List.setIfInBounds_toArray, List.set_cons_zero, List.set_cons_succ, i64_w, i32_w]
       rfl
      refine pure_ (i := 12) (N := some 17) (v := ?_) (a' := ?_) #[true, true, true, true, true, true, true, true, true, true, true, false, true, false, false, false, false, false, false, false, false, false, false, false, false, false, false, false, false, false, false, false] rfl rfl (any_of HT_.out (by kernel_rfl)) (fun _ _ _ h => h) (Or.inl ⟨by rfl, ?_⟩) ?_ ?_
      rotate_left
      ·intro w'
       go_simp
       with_reducible rfl
      rotate_left
      ·simp only [Act.put, List.setIfInBounds_toArray, List.set_cons_zero, List.set_cons_succ, i64_w, i32_w]
       rfl
      refine take_ (i := 11) (N := some 16) (v := ?_) (a' := ?_) #[true, true, true, true, true, true, true, true, true, true, true, true, true, false, false, false, false, false, false, false, false, false, false, false, false, false, false, false, false, false, false, false] rfl rfl (take_ofW HT_.out HW_.out (by kernel_rfl)) (fun _ _ _ h => h) (Or.inl ⟨by rfl, ?_⟩) hHeld ?_ ?_
      rotate_left
      ·rintro w' ⟨s0, s1, s2, s3, s4, s5⟩
       go_simp
       with_reducible rfl
      rotate_left
      ·simp only [Act.put, List.setIfInBounds_toArray, List.set_cons_zero, List.set_cons_succ, i64_w, i32_w]
       rfl
      refine take_ (i := 13) (N := some 18) (v := ?_) (a' := ?_) #[true, true, true, true, true, true, true, true, true, true, true, true, true, true, false, false, false, false, false, false, false, false, false, false, false, false, false, false, false, false, false, false] rfl rfl (take_ofW HT_.out HW_.out (by kernel_rfl)) (fun _ _ _ h => h) (Or.inl ⟨by rfl, ?_⟩) hHeld ?_ ?_
      rotate_left
      ·rintro w' ⟨s0, s1, s2, s3, s4, s5⟩
       go_simp
       with_reducible rfl
      rotate_left
      ·simp only [Act.put, List.setIfInBounds_toArray, List.set_cons_zero, List.set_cons_succ, i64_w, i32_w]
       rfl
      refine one_ (i := 14) (N := some 19) #[true, true, true, true, true, true, true, true, true, true, true, true, true, true, true, false, false, false, false, false, false, false, false, false, false, false, false, false, false, false, false, false] rfl rfl (one_of HT_.out (by kernel_rfl)) (by decide) (fun K hK => ?_)
      refine goes_ Try.func123 (by kernel_rfl) rfl #[.int .i64 a1_2, .int .i64 0, .int .i64 a1_3] (by rfl) rfl rfl ar_ ?_
      with_reducible refine (impl_within.calls a1_2 0 a1_3 true _ A7.out).mono ?_
      rintro e w' ⟨rfl, ⟨nd, rfl⟩⟩
      refine ⟨_, rfl, ?_⟩
      refine hK.out _ _ ⟨(blk_cell BK103.out 0).trans rfl, (blk_cell BK104.out 0).trans rfl, (blk_cell BK104.out 1).trans rfl, (blk_cell BK104.out 2).trans rfl, (blk_cell BK104.out 3).trans rfl, ((HB.out.cell (World.block_lt_of_cell? w _ hw108_0)).trans hw108_0)⟩ (fun hHeld => ?_)
      clear hK K
      refine norm_ (a' := ?_) ?_ ?_
      rotate_left
      ·show Act.put _ (some 19) _ = _
       simp only [Act.put, List.setIfInBounds_toArray, List.set_cons_zero, List.set_cons_succ, i64_w, i32_w]
       rfl
      refine pure_ (i := 15) (N := some 20) (v := ?_) (a' := ?_) #[true, true, true, true, true, true, true, true, true, true, true, true, true, true, true, true, false, false, false, false, false, false, false, false, false, false, false, false, false, false, false, false] rfl rfl (any_of HT_.out (by kernel_rfl)) (fun _ _ _ h => h) (Or.inl ⟨by rfl, ?_⟩) ?_ ?_
      rotate_left
      ·intro w'
       go_simp
       with_reducible rfl
      rotate_left
      ·simp only [Act.put, List.setIfInBounds_toArray, List.set_cons_zero, List.set_cons_succ, i64_w, i32_w]
       rfl
      refine pure_ (i := 16) (N := some 21) (v := ?_) (a' := ?_) #[true, true, true, true, true, true, true, true, true, true, true, true, true, true, true, true, true, false, false, false, false, false, false, false, false, false, false, false, false, false, false, false] rfl rfl (any_of HT_.out (by kernel_rfl)) (fun _ _ _ h => h) (Or.inl ⟨by rfl, ?_⟩) ?_ ?_
      rotate_left
      ·intro w'
       go_simp
       with_reducible rfl
      rotate_left
      ·simp only [Act.put, List.setIfInBounds_toArray, List.set_cons_zero, List.set_cons_succ, i64_w, i32_w]
       rfl
      refine pure_ (i := 17) (N := some 22) (v := ?_) (a' := ?_) #[true, true, true, true, true, true, true, true, true, true, true, true, true, true, true, true, true, true, false, false, false, false, false, false, false, false, false, false, false, false, false, false] rfl rfl (any_of HT_.out (by kernel_rfl)) (fun _ _ _ h => h) (Or.inl ⟨by rfl, ?_⟩) ?_ ?_
      rotate_left
      ·intro w'
       go_simp
       with_reducible rfl
      rotate_left
      ·simp only [Act.put, List.setIfInBounds_toArray, List.set_cons_zero, List.set_cons_succ, i64_w, i32_w]
       rfl
      refine pure_ (i := 19) (N := some 24) (v := ?_) (a' := ?_) #[true, true, true, true, true, true, true, true, true, true, true, true, true, true, true, true, true, true, false, true, false, false, false, false, false, false, false, false, false, false, false, false] rfl rfl (any_of HT_.out (by kernel_rfl)) (fun _ _ _ h => h) (Or.inl ⟨by rfl, ?_⟩) ?_ ?_
      rotate_left
      ·intro w'
       go_simp
       with_reducible rfl
      rotate_left
      ·simp only [Act.put, List.setIfInBounds_toArray, List.set_cons_zero, List.set_cons_succ, i64_w, i32_w]
       rfl
      refine pure_ (i := 21) (N := some 26) (v := ?_) (a' := ?_) #[true, true, true, true, true, true, true, true, true, true, true, true, true, true, true, true, true, true, false, true, false, true, false, false, false, false, false, false, false, false, false, false] rfl rfl (any_of HT_.out (by kernel_rfl)) (fun _ _ _ h => h) (Or.inl ⟨by rfl, ?_⟩) ?_ ?_
      rotate_left
      ·intro w'
       go_simp
       with_reducible rfl
      rotate_left
      ·simp only [Act.put, List.setIfInBounds_toArray, List.set_cons_zero, List.set_cons_succ, i64_w, i32_w]
       rfl
      refine pure_ (i := 26) (N := some 31) (v := ?_) (a' := ?_) #[true, true, true, true, true, true, true, true, true, true, true, true, true, true, true, true, true, true, false, true, false, true, false, false, false, false, true, false, false, false, false, false] rfl rfl (any_of HT_.out (by kernel_rfl)) (fun _ _ _ h => h) (Or.inl ⟨by rfl, ?_⟩) ?_ ?_
      rotate_left
      ·intro w'
       go_simp
       with_reducible rfl
      rotate_left
      ·simp only [Act.put, List.setIfInBounds_toArray, List.set_cons_zero, List.set_cons_succ, i64_w, i32_w]
       rfl
      refine take_ (i := 18) (N := some 23) (v := ?_) (a' := ?_) #[true, true, true, true, true, true, true, true, true, true, true, true, true, true, true, true, true, true, true, true, false, true, false, false, false, false, true, false, false, false, false, false] rfl rfl (take_ofW HT_.out HW_.out (by kernel_rfl)) (fun _ _ _ h => h) (Or.inl ⟨by rfl, ?_⟩) hHeld ?_ ?_
      rotate_left
      ·rintro w' ⟨s0, s1, s2, s3, s4, s5⟩
       go_simp
       with_reducible rfl
      rotate_left
      ·simp only [Act.put, List.setIfInBounds_toArray, List.set_cons_zero, List.set_cons_succ, i64_w, i32_w]
       rfl
      refine take_ (i := 20) (N := some 25) (v := ?_) (a' := ?_) #[true, true, true, true, true, true, true, true, true, true, true, true, true, true, true, true, true, true, true, true, true, true, false, false, false, false, true, false, false, false, false, false] rfl rfl (take_ofW HT_.out HW_.out (by kernel_rfl)) (fun _ _ _ h => h) (Or.inl ⟨by rfl, ?_⟩) hHeld ?_ ?_
      rotate_left
      ·rintro w' ⟨s0, s1, s2, s3, s4, s5⟩
       go_simp
       with_reducible rfl
      rotate_left
      ·simp only [Act.put, List.setIfInBounds_toArray, List.set_cons_zero, List.set_cons_succ, i64_w, i32_w]
       rfl
      refine take_ (i := 22) (N := some 27) (v := ?_) (a' := ?_) #[true, true, true, true, true, true, true, true, true, true, true, true, true, true, true, true, true, true, true, true, true, true, true, false, false, false, true, false, false, false, false, false] rfl rfl (take_ofW HT_.out HW_.out (by kernel_rfl)) (fun _ _ _ h => h) (Or.inl ⟨by rfl, ?_⟩) hHeld ?_ ?_
      rotate_left
      ·rintro w' ⟨s0, s1, s2, s3, s4, s5⟩
       go_simp
       with_reducible rfl
      rotate_left
      ·simp only [Act.put, List.setIfInBounds_toArray, List.set_cons_zero, List.set_cons_succ, i64_w, i32_w]
       rfl
      refine pure_ (i := 23) (N := some 28) (v := ?_) (a' := ?_) #[true, true, true, true, true, true, true, true, true, true, true, true, true, true, true, true, true, true, true, true, true, true, true, true, false, false, true, false, false, false, false, false] rfl rfl (any_of HT_.out (by kernel_rfl)) (fun _ _ _ h => h) (Or.inl ⟨by rfl, ?_⟩) ?_ ?_
      rotate_left
      ·intro w'
       go_simp
       with_reducible rfl
      rotate_left
      ·simp only [Act.put, List.setIfInBounds_toArray, List.set_cons_zero, List.set_cons_succ, i64_w, i32_w]
       rfl
      refine take_ (i := 24) (N := some 29) (v := ?_) (a' := ?_) #[true, true, true, true, true, true, true, true, true, true, true, true, true, true, true, true, true, true, true, true, true, true, true, true, true, false, true, false, false, false, false, false] rfl rfl (take_ofW HT_.out HW_.out (by kernel_rfl)) (fun _ _ _ h => h) (Or.inl ⟨by rfl, ?_⟩) hHeld ?_ ?_
      rotate_left
      ·rintro w' ⟨s0, s1, s2, s3, s4, s5⟩
       go_simp
       with_reducible rfl
      rotate_left
      ·simp only [Act.put, List.setIfInBounds_toArray, List.set_cons_zero, List.set_cons_succ, i64_w, i32_w]
       rfl
      refine pure_ (i := 25) (N := some 30) (v := ?_) (a' := ?_) #[true, true, true, true, true, true, true, true, true, true, true, true, true, true, true, true, true, true, true, true, true, true, true, true, true, true, true, false, false, false, false, false] rfl rfl (any_of HT_.out (by kernel_rfl)) (fun _ _ _ h => h) (Or.inl ⟨by rfl, ?_⟩) ?_ ?_
      rotate_left
      ·intro w'
       go_simp
       with_reducible rfl
      rotate_left
      ·simp only [Act.put, List.setIfInBounds_toArray, List.set_cons_zero, List.set_cons_succ, i64_w, i32_w]
       rfl
      refine take_ (i := 27) (N := some 32) (v := ?_) (a' := ?_) #[true, true, true, true, true, true, true, true, true, true, true, true, true, true, true, true, true, true, true, true, true, true, true, true, true, true, true, true, false, false, false, false] rfl rfl (take_ofW HT_.out HW_.out (by kernel_rfl)) (fun _ _ _ h => h) (Or.inl ⟨by rfl, ?_⟩) hHeld ?_ ?_
      rotate_left
      ·rintro w' ⟨s0, s1, s2, s3, s4, s5⟩
       go_simp
       with_reducible rfl
      rotate_left
      ·simp only [Act.put, List.setIfInBounds_toArray, List.set_cons_zero, List.set_cons_succ, i64_w, i32_w]
       rfl
      refine pure_ (i := 28) (N := some 33) (v := ?_) (a' := ?_) #[true, true, true, true, true, true, true, true, true, true, true, true, true, true, true, true, true, true, true, true, true, true, true, true, true, true, true, true, true, false, false, false] rfl rfl (any_of HT_.out (by kernel_rfl)) (fun _ _ _ h => h) (Or.inl ⟨by rfl, ?_⟩) ?_ ?_
      rotate_left
      ·intro w'
       go_simp
       with_reducible rfl
      rotate_left
      ·simp only [Act.put, List.setIfInBounds_toArray, List.set_cons_zero, List.set_cons_succ, i64_w, i32_w]
       rfl
      refine one_ (i := 29) (N := some 34) #[true, true, true, true, true, true, true, true, true, true, true, true, true, true, true, true, true, true, true, true, true, true, true, true, true, true, true, true, true, true, false, false] rfl rfl (one_of HT_.out (by kernel_rfl)) (by decide) (fun K hK => ?_)
      refine goes_ Try.func123 (by kernel_rfl) rfl #[.int .i64 a1_1, .int .i64 0, .int .i64 (wrap64 (((rd_L1 l0_0 a1_0).length : Int) - a1_3))] (by rfl) rfl rfl ar_ ?_
      with_reducible refine (impl_within.calls a1_1 0 (wrap64 (((rd_L1 l0_0 a1_0).length : Int) - a1_3)) t109 _ A11.out).mono ?_
      rintro e w' ⟨rfl, ⟨nd, rfl⟩⟩
      refine ⟨_, rfl, ?_⟩
      refine hK.out _ _ ⟨(blk_cell BK103.out 0).trans rfl, (blk_cell BK104.out 0).trans rfl, (blk_cell BK104.out 1).trans rfl, (blk_cell BK104.out 2).trans rfl, (blk_cell BK104.out 3).trans rfl, ((HB.out.cell (World.block_lt_of_cell? w _ hw108_0)).trans hw108_0)⟩ (fun hHeld => ?_)
      clear hK K
      refine norm_ (a' := ?_) ?_ ?_
      rotate_left
      ·show Act.put _ (some 34) _ = _
       simp only [Act.put, List.setIfInBounds_toArray, List.set_cons_zero, List.set_cons_succ, i64_w, i32_w]
       rfl
      refine pure_ (i := 30) (N := some 35) (v := ?_) (a' := ?_) #[true, true, true, true, true, true, true, true, true, true, true, true, true, true, true, true, true, true, true, true, true, true, true, true, true, true, true, true, true, true, true, false] rfl rfl (any_of HT_.out (by kernel_rfl)) (fun _ _ _ h => h) (Or.inl ⟨by rfl, ?_⟩) ?_ ?_
      rotate_left
      ·intro w'
       go_simp
       with_reducible rfl
      rotate_left
      ·simp only [Act.put, List.setIfInBounds_toArray, List.set_cons_zero, List.set_cons_succ, i64_w, i32_w]
       rfl
      refine pure_ (i := 31) (N := some 4) (v := ?_) (a' := ?_) #[true, true, true, true, true, true, true, true, true, true, true, true, true, true, true, true, true, true, true, true, true, true, true, true, true, true, true, true, true, true, true, true] rfl rfl (any_of HT_.out (by kernel_rfl)) (fun _ _ _ h => h) (Or.inl ⟨by rfl, ?_⟩) ?_ ?_
      rotate_left
      ·intro w'
       go_simp
       with_reducible rfl
      rotate_left
      ·simp only [Act.put, List.setIfInBounds_toArray, List.set_cons_zero, List.set_cons_succ, i64_w, i32_w]
       rfl
      refine done_ (done_of HT_.out (by kernel_rfl)) ?_
      try go_wp2
      go_ret
      exact ⟨er_, by repeat (first | (with_reducible first | exact HB.out | apply below_alloc | apply pw_below_drewN | apply below_drew1 | refine below_set ?_ GE103.out | refine below_set ?_ GE104.out) | exact HB.out)⟩
     ·rw [if_neg c10] at H
      exact absurd H (by simp)
    ·rw [if_neg c9] at H
     exact absurd H (by simp)
   ·replace c8 := Bool.eq_false_iff.mpr c8
    subst c8
    rw [if_neg (show ¬ (false = true) by decide)] at H
    obtain rfl := Option.some.inj H
    go_enter Try.func188, Try.ntmps188
    try go_wp2_with (first | ((with_reducible refine gate_dst (N := 2) rfl ?_); (try (refine gate_guard (by rfl) ?_; dsimp only)); refine box_event ?hg (N := 2) ?hd (cs := #[.slice A0_0 l0_0.length c0_0]) (t := 31) ?hr ?_; (case hd => rfl); (case hg => rfl); (case hr => exact gs_); intro gb103 hg w16 hbox hb; have BK103 := Aside0.mk (hbox); have GW103 := gE_ HB hg; have GE103 := gE_ HB hg; replace HB := Aside0.mk (below_step (by repeat (first | (with_reducible first | exact HB.out | apply ba_ | apply bn_ | apply bd_) | exact HB.out)) hb); clear hb hbox hg) | ((with_reducible refine gate_dst (N := 3) rfl ?_); (try (refine gate_guard (by rfl) ?_; dsimp only)); refine box_event ?hg (N := 3) ?hd (cs := #[.int .i64 a1_0, .int .i64 a1_1, .int .i64 a1_2, .int .i64 a1_3]) (t := 32) ?hr ?_; (case hd => rfl); (case hg => rfl); (case hr => exact gs_); intro gb104 hg w17 hbox hb; have BK104 := Aside0.mk (hbox); have GW104 := gE_ HB hg; have GE104 := gE_ HB hg; replace HB := Aside0.mk (below_step (by repeat (first | (with_reducible first | exact HB.out | apply ba_ | apply bn_ | apply bd_ | refine bset_ ?_ (by assumption)) | exact HB.out)) hb); have NB103_104 := nB_ BK103 hg; have NB104_103 := nA_ BK103 hg; replace BK103 := bB_ BK103 hb; clear hb hbox hg))
    replace BK103 := Aside0.mk (blk_drew BK103.out)
    replace BK104 := Aside0.mk (blk_drew BK104.out)
    replace HB := Aside0.mk (below_drew1 HB.out)
    refine start_ (n := 32) (S := fun w' => w'.cell? ⟨gb103, 0, none⟩ = some (.slice A0_0 l0_0.length c0_0) ∧ w'.cell? ⟨gb104, 0, none⟩ = some (.int .i64 a1_0) ∧ w'.cell? ⟨gb104, 1, none⟩ = some (.int .i64 a1_1) ∧ w'.cell? ⟨gb104, 2, none⟩ = some (.int .i64 a1_2) ∧ w'.cell? ⟨gb104, 3, none⟩ = some (.int .i64 a1_3)) (ds := []) #[false, false, false, false, false, false, false, false, false, false, false, false, false, false, false, false, false, false, false, false, false, false, false, false, false, false, false, false, false, false, false, false] (by kernel_rfl) rfl rfl ⟨(blk_cell BK103.out 0).trans rfl, (blk_cell BK104.out 0).trans rfl, (blk_cell BK104.out 1).trans rfl, (blk_cell BK104.out 2).trans rfl, (blk_cell BK104.out 3).trans rfl⟩ (fun hHeld => ?_); refine with_tabW impl_Memory_hasWindow.tab1 impl_Memory_hasWindow.bits1 (fun HT_ HW_ => ?_)
    generalize w17.drew = w18 at BK103 BK104 HB hHeld ⊢
    refine pure_ (i := 1) (N := some 6) (v := ?_) (a' := ?_) #[false, true, false, false, false, false, false, false, false, false, false, false, false, false, false, false, false, false, false, false, false, false, false, false, false, false, false, false, false, false, false, false] rfl rfl (any_of HT_.out (by kernel_rfl)) (fun _ _ _ h => h) (Or.inl ⟨by rfl, ?_⟩) ?_ ?_
    rotate_left
    ·intro w'
     go_simp
     with_reducible rfl
    rotate_left
    ·simp only [Act.put, List.setIfInBounds_toArray, List.set_cons_zero, List.set_cons_succ, i64_w, i32_w]
     rfl
    refine take_ (i := 0) (N := some 5) (v := ?_) (a' := ?_) #[true, true, false, false, false, false, false, false, false, false, false, false, false, false, false, false, false, false, false, false, false, false, false, false, false, false, false, false, false, false, false, false] rfl rfl (take_ofW HT_.out HW_.out (by kernel_rfl)) (fun _ _ _ h => h) (Or.inl ⟨by rfl, ?_⟩) hHeld ?_ ?_
    rotate_left
    ·rintro w' ⟨s0, s1, s2, s3, s4⟩
     go_simp
     with_reducible rfl
    rotate_left
    ·simp only [Act.put, List.setIfInBounds_toArray, List.set_cons_zero, List.set_cons_succ, i64_w, i32_w]
     rfl
    refine take_ (i := 2) (N := some 7) (v := ?_) (a' := ?_) #[true, true, true, false, false, false, false, false, false, false, false, false, false, false, false, false, false, false, false, false, false, false, false, false, false, false, false, false, false, false, false, false] rfl rfl (take_ofW HT_.out HW_.out (by kernel_rfl)) (fun _ _ _ h => h) (Or.inl ⟨by rfl, ?_⟩) hHeld ?_ ?_
    rotate_left
    ·rintro w' ⟨s0, s1, s2, s3, s4⟩
     go_simp
     with_reducible rfl
    rotate_left
    ·simp only [Act.put, List.setIfInBounds_toArray, List.set_cons_zero, List.set_cons_succ, i64_w, i32_w]
     rfl
    refine one_ (i := 3) (N := some 8) #[true, true, true, true, false, false, false, false, false, false, false, false, false, false, false, false, false, false, false, false, false, false, false, false, false, false, false, false, false, false, false, false] rfl rfl (one_of HT_.out (by kernel_rfl)) (by decide) (fun K hK => ?_)
    refine goes_ Try.func204 (by kernel_rfl) rfl #[.agg #[.slice A0_0 l0_0.length c0_0], .int .i64 a1_0] (by rfl) rfl rfl ar_ ?_
    with_reducible refine (impl_Memory_hasArray.calls _ _ l0_0 a1_0 true _ ?side1 ?side2 A3.out).mono ?_
    (case side1 => exact cS_ (Kd.C_below HR0_0.out HB.out))
    (case side2 => exact HC0_0.out)
    rintro e w19 ⟨rfl, hb⟩
    refine ⟨_, rfl, ?_⟩
    replace BK103 := bB_ BK103 hb
    replace BK104 := bB_ BK104 hb
    replace HB := Aside0.mk (below_step (by repeat (first | (with_reducible first | exact HB.out | apply ba_ | apply bn_ | apply bd_ | refine bset_ ?_ (by assumption)) | exact HB.out)) hb)
    (try clear hb)
    (try clear hb2)
    (try clear hk)
    (try clear hi)
    refine hK.out _ _ ⟨(blk_cell BK103.out 0).trans rfl, (blk_cell BK104.out 0).trans rfl, (blk_cell BK104.out 1).trans rfl, (blk_cell BK104.out 2).trans rfl, (blk_cell BK104.out 3).trans rfl⟩ (fun hHeld => ?_)
    clear hK K
    refine norm_ (a' := ?_) ?_ ?_
    rotate_left
    ·show Act.put _ (some 8) _ = _
     simp only [Act.put, List.setIfInBounds_toArray, List.set_cons_zero, List.set_cons_succ, i64_w, i32_w]
     rfl
    refine pure_ (i := 4) (N := some 9) (v := ?_) (a' := ?_) #[true, true, true, true, true, false, false, false, false, false, false, false, false, false, false, false, false, false, false, false, false, false, false, false, false, false, false, false, false, false, false, false] rfl rfl (any_of HT_.out (by kernel_rfl)) (fun _ _ _ h => h) (Or.inl ⟨by rfl, ?_⟩) ?_ ?_
    rotate_left
    ·intro w'
     go_simp
     with_reducible rfl
    rotate_left
    ·simp only [Act.put, List.setIfInBounds_toArray, List.set_cons_zero, List.set_cons_succ, i64_w, i32_w]
     rfl
    refine pure_ (i := 5) (N := some 10) (v := ?_) (a' := ?_) #[true, true, true, true, true, true, false, false, false, false, false, false, false, false, false, false, false, false, false, false, false, false, false, false, false, false, false, false, false, false, false, false] rfl rfl (any_of HT_.out (by kernel_rfl)) (fun _ _ _ h => h) (Or.inl ⟨by rfl, ?_⟩) ?_ ?_
    rotate_left
    ·intro w'
     go_simp
     with_reducible rfl
    rotate_left
    ·simp only [Act.put, List.setIfInBounds_toArray, List.set_cons_zero, List.set_cons_succ, i64_w, i32_w]
     rfl
    refine take_ (i := 6) (N := some 11) (v := ?_) (a' := ?_) #[true, true, true, true, true, true, true, false, false, false, false, false, false, false, false, false, false, false, false, false, false, false, false, false, false, false, false, false, false, false, false, false] rfl rfl (take_ofW HT_.out HW_.out (by kernel_rfl)) (fun _ _ _ h => h) (Or.inl ⟨by rfl, ?_⟩) hHeld ?_ ?_
    rotate_left
    ·rintro w' ⟨s0, s1, s2, s3, s4⟩
     go_simp
     with_reducible rfl
    rotate_left
    ·simp only [Act.put, List.setIfInBounds_toArray, List.set_cons_zero, List.set_cons_succ, i64_w, i32_w]
     rfl
    refine one_ (i := 7) (N := some 12) #[true, true, true, true, true, true, true, true, false, false, false, false, false, false, false, false, false, false, false, false, false, false, false, false, false, false, false, false, false, false, false, false] rfl rfl (one_of HT_.out (by kernel_rfl)) (by decide) (fun K hK => ?_)
    refine goes_ Try.func123 (by kernel_rfl) rfl #[.int .i64 a1_3, .int .i64 0, .int .i64 64] (by rfl) rfl rfl ar_ ?_
    with_reducible refine (impl_within.calls a1_3 0 64 true _ A5.out).mono ?_
    rintro e w' ⟨rfl, ⟨nd, rfl⟩⟩
    refine ⟨_, rfl, ?_⟩
    refine hK.out _ _ ⟨(blk_cell BK103.out 0).trans rfl, (blk_cell BK104.out 0).trans rfl, (blk_cell BK104.out 1).trans rfl, (blk_cell BK104.out 2).trans rfl, (blk_cell BK104.out 3).trans rfl⟩ (fun hHeld => ?_)
    clear hK K
    refine norm_ (a' := ?_) ?_ ?_
    rotate_left
    ·show Act.put _ (some 12) _ = _
     simp only [Act.put, List.setIfInBounds_toArray, List.set_cons_zero, List.set_cons_succ, i64_w, i32_w]
     rfl
    refine pure_ (i := 8) (N := some 13) (v := ?_) (a' := ?_) #[true, true, true, true, true, true, true, true, true, false, false, false, false, false, false, false, false, false, false, false, false, false, false, false, false, false, false, false, false, false, false, false] rfl rfl (any_of HT_.out (by kernel_rfl)) (fun _ _ _ h => h) (Or.inl ⟨by rfl, ?_⟩) ?_ ?_
    rotate_left
    ·intro w'
     go_simp
     with_reducible rfl
    rotate_left
    ·simp only [Act.put, List.setIfInBounds_toArray, List.set_cons_zero, List.set_cons_succ, i64_w, i32_w]
     rfl
    refine pure_ (i := 9) (N := some 14) (v := ?_) (a' := ?_) #[true, true, true, true, true, true, true, true, true, true, false, false, false, false, false, false, false, false, false, false, false, false, false, false, false, false, false, false, false, false, false, false] rfl rfl (any_of HT_.out (by kernel_rfl)) (fun _ _ _ h => h) (Or.inl ⟨by rfl, ?_⟩) ?_ ?_
    rotate_left
    ·intro w'
     go_simp
     with_reducible rfl
    rotate_left
    ·simp only [Act.put, List.setIfInBounds_toArray, List.set_cons_zero, List.set_cons_succ, i64_w, i32_w]
     rfl
    refine pure_ (i := 10) (N := some 15) (v := ?_) (a' := ?_) #[true, true, true, true, true, true, true, true, true, true, true, false, false, false, false, false, false, false, false, false, false, false, false, false, false, false, false, false, false, false, false, false] rfl rfl (any_of HT_.out (by kernel_rfl)) (fun _ _ _ h => h) (Or.inl ⟨by rfl, ?_⟩) ?_ ?_
    rotate_left
    ·intro w'
     go_simp
     with_reducible rfl
    rotate_left
    ·simp only [Act.put, List.setIfInBounds_toArray, List.set_cons_zero, List.set_cons_succ, i64_w, i32_w]
     rfl
    refine pure_ (i := 12) (N := some 17) (v := ?_) (a' := ?_) #[true, true, true, true, true, true, true, true, true, true, true, false, true, false, false, false, false, false, false, false, false, false, false, false, false, false, false, false, false, false, false, false] rfl rfl (any_of HT_.out (by kernel_rfl)) (fun _ _ _ h => h) (Or.inl ⟨by rfl, ?_⟩) ?_ ?_
    rotate_left
    ·intro w'
     go_simp
     with_reducible rfl
    rotate_left
    ·simp only [Act.put, List.setIfInBounds_toArray, List.set_cons_zero, List.set_cons_succ, i64_w, i32_w]
     rfl
    refine take_ (i := 11) (N := some 16) (v := ?_) (a' := ?_) #[true, true, true, true, true, true, true, true, true, true, true, true, true, false, false, false, false, false, false, false, false, false, false, false, false, false, false, false, false, false, false, false] rfl rfl (take_ofW HT_.out HW_.out (by kernel_rfl)) (fun _ _ _ h => h) (Or.inl ⟨by rfl, ?_⟩) hHeld ?_ ?_
    rotate_left
    ·rintro w' ⟨s0, s1, s2, s3, s4⟩
     go_simp
     with_reducible rfl
    rotate_left
    ·simp only [Act.put, List.setIfInBounds_toArray, List.set_cons_zero, List.set_cons_succ, i64_w, i32_w]
     rfl
    refine take_ (i := 13) (N := some 18) (v := ?_) (a' := ?_) #[true, true, true, true, true, true, true, true, true, true, true, true, true, true, false, false, false, false, false, false, false, false, false, false, false, false, false, false, false, false, false, false] rfl rfl (take_ofW HT_.out HW_.out (by kernel_rfl)) (fun _ _ _ h => h) (Or.inl ⟨by rfl, ?_⟩) hHeld ?_ ?_
    rotate_left
    ·rintro w' ⟨s0, s1, s2, s3, s4⟩
     go_simp
     with_reducible rfl
    rotate_left
    ·simp only [Act.put, List.setIfInBounds_toArray, List.set_cons_zero, List.set_cons_succ, i64_w, i32_w]
     rfl
    refine one_ (i := 14) (N := some 19) #[true, true, true, true, true, true, true, true, true, true, true, true, true, true, true, false, false, false, false, false, false, false, false, false, false, false, false, false, false, false, false, false] rfl rfl (one_of HT_.out (by kernel_rfl)) (by decide) (fun K hK => ?_)
    refine goes_ Try.func123 (by kernel_rfl) rfl #[.int .i64 a1_2, .int .i64 0, .int .i64 a1_3] (by rfl) rfl rfl ar_ ?_
    with_reducible refine (impl_within.calls a1_2 0 a1_3 false _ A7.out).mono ?_
    rintro e w' ⟨rfl, ⟨nd, rfl⟩⟩
    refine ⟨_, rfl, ?_⟩
    refine hK.out _ _ ⟨(blk_cell BK103.out 0).trans rfl, (blk_cell BK104.out 0).trans rfl, (blk_cell BK104.out 1).trans rfl, (blk_cell BK104.out 2).trans rfl, (blk_cell BK104.out 3).trans rfl⟩ (fun hHeld => ?_)
    clear hK K
    refine norm_ (a' := ?_) ?_ ?_
    rotate_left
    ·show Act.put _ (some 19) _ = _
     simp only [Act.put, List.setIfInBounds_toArray, List.set_cons_zero, List.set_cons_succ, i64_w, i32_w]
     rfl
    refine pure_ (i := 15) (N := some 20) (v := ?_) (a' := ?_) #[true, true, true, true, true, true, true, true, true, true, true, true, true, true, true, true, false, false, false, false, false, false, false, false, false, false, false, false, false, false, false, false] rfl rfl (any_of HT_.out (by kernel_rfl)) (fun _ _ _ h => h) (Or.inl ⟨by rfl, ?_⟩) ?_ ?_
    rotate_left
    ·intro w'
     go_simp
     with_reducible rfl
    rotate_left
    ·simp only [Act.put, List.setIfInBounds_toArray, List.set_cons_zero, List.set_cons_succ, i64_w, i32_w]
     rfl
    refine pure_ (i := 16) (N := some 21) (v := ?_) (a' := ?_) #[true, true, true, true, true, true, true, true, true, true, true, true, true, true, true, true, true, false, false, false, false, false, false, false, false, false, false, false, false, false, false, false] rfl rfl (any_of HT_.out (by kernel_rfl)) (fun _ _ _ h => h) (Or.inl ⟨by rfl, ?_⟩) ?_ ?_
    rotate_left
    ·intro w'
     go_simp
     with_reducible rfl
    rotate_left
    ·simp only [Act.put, List.setIfInBounds_toArray, List.set_cons_zero, List.set_cons_succ, i64_w, i32_w]
     rfl
    refine pure_ (i := 17) (N := some 22) (v := undef) (a' := ?_) #[true, true, true, true, true, true, true, true, true, true, true, true, true, true, true, true, true, true, false, false, false, false, false, false, false, false, false, false, false, false, false, false] rfl rfl (any_of HT_.out (by kernel_rfl)) (fun _ _ _ h => h) (Or.inr ⟨by rfl, rfl⟩) ?_ ?_
    rotate_left
    ·simp only [Act.put, List.setIfInBounds_toArray, List.set_cons_zero, List.set_cons_succ, i64_w, i32_w]
     rfl
    refine pure_ (i := 18) (N := some 23) (v := undef) (a' := ?_) #[true, true, true, true, true, true, true, true, true, true, true, true, true, true, true, true, true, true, true, false, false, false, false, false, false, false, false, false, false, false, false, false] rfl rfl (any_of HT_.out (by kernel_rfl)) (fun _ _ _ h => h) (Or.inr ⟨by rfl, rfl⟩) ?_ ?_
    rotate_left
    ·simp only [Act.put, List.setIfInBounds_toArray, List.set_cons_zero, List.set_cons_succ, i64_w, i32_w]
     rfl
    refine pure_ (i := 19) (N := some 24) (v := undef) (a' := ?_) #[true, true, true, true, true, true, true, true, true, true, true, true, true, true, true, true, true, true, true, true, false, false, false, false, false, false, false, false, false, false, false, false] rfl rfl (any_of HT_.out (by kernel_rfl)) (fun _ _ _ h => h) (Or.inr ⟨by rfl, rfl⟩) ?_ ?_
    rotate_left
    ·simp only [Act.put, List.setIfInBounds_toArray, List.set_cons_zero, List.set_cons_succ, i64_w, i32_w]
     rfl
    refine pure_ (i := 20) (N := some 25) (v := undef) (a' := ?_) #[true, true, true, true, true, true, true, true, true, true, true, true, true, true, true, true, true, true, true, true, true, false, false, false, false, false, false, false, false, false, false, false] rfl rfl (any_of HT_.out (by kernel_rfl)) (fun _ _ _ h => h) (Or.inr ⟨by rfl, rfl⟩) ?_ ?_
    rotate_left
    ·simp only [Act.put, List.setIfInBounds_toArray, List.set_cons_zero, List.set_cons_succ, i64_w, i32_w]
     rfl
    refine pure_ (i := 21) (N := some 26) (v := undef) (a' := ?_) #[true, true, true, true, true, true, true, true, true, true, true, true, true, true, true, true, true, true, true, true, true, true, false, false, false, false, false, false, false, false, false, false] rfl rfl (any_of HT_.out (by kernel_rfl)) (fun _ _ _ h => h) (Or.inr ⟨by rfl, rfl⟩) ?_ ?_
    rotate_left
    ·simp only [Act.put, List.setIfInBounds_toArray, List.set_cons_zero, List.set_cons_succ, i64_w, i32_w]
     rfl
    refine pure_ (i := 22) (N := some 27) (v := undef) (a' := ?_) #[true, true, true, true, true, true, true, true, true, true, true, true, true, true, true, true, true, true, true, true, true, true, true, false, false, false, false, false, false, false, false, false] rfl rfl (any_of HT_.out (by kernel_rfl)) (fun _ _ _ h => h) (Or.inr ⟨by rfl, rfl⟩) ?_ ?_
    rotate_left
    ·simp only [Act.put, List.setIfInBounds_toArray, List.set_cons_zero, List.set_cons_succ, i64_w, i32_w]
     rfl
    refine pure_ (i := 23) (N := some 28) (v := undef) (a' := ?_) #[true, true, true, true, true, true, true, true, true, true, true, true, true, true, true, true, true, true, true, true, true, true, true, true, false, false, false, false, false, false, false, false] rfl rfl (any_of HT_.out (by kernel_rfl)) (fun _ _ _ h => h) (Or.inr ⟨by rfl, rfl⟩) ?_ ?_
    rotate_left
    ·simp only [Act.put, List.setIfInBounds_toArray, List.set_cons_zero, List.set_cons_succ, i64_w, i32_w]
     rfl
    refine pure_ (i := 24) (N := some 29) (v := undef) (a' := ?_) #[true, true, true, true, true, true, true, true, true, true, true, true, true, true, true, true, true, true, true, true, true, true, true, true, true, false, false, false, false, false, false, false] rfl rfl (any_of HT_.out (by kernel_rfl)) (fun _ _ _ h => h) (Or.inr ⟨by rfl, rfl⟩) ?_ ?_
    rotate_left
    ·simp only [Act.put, List.setIfInBounds_toArray, List.set_cons_zero, List.set_cons_succ, i64_w, i32_w]
     rfl
    refine pure_ (i := 25) (N := some 30) (v := undef) (a' := ?_) #[true, true, true, true, true, true, true, true, true, true, true, true, true, true, true, true, true, true, true, true, true, true, true, true, true, true, false, false, false, false, false, false] rfl rfl (any_of HT_.out (by kernel_rfl)) (fun _ _ _ h => h) (Or.inr ⟨by rfl, rfl⟩) ?_ ?_
    rotate_left
    ·simp only [Act.put, List.setIfInBounds_toArray, List.set_cons_zero, List.set_cons_succ, i64_w, i32_w]
     rfl
    refine pure_ (i := 26) (N := some 31) (v := undef) (a' := ?_) #[true, true, true, true, true, true, true, true, true, true, true, true, true, true, true, true, true, true, true, true, true, true, true, true, true, true, true, false, false, false, false, false] rfl rfl (any_of HT_.out (by kernel_rfl)) (fun _ _ _ h => h) (Or.inr ⟨by rfl, rfl⟩) ?_ ?_
    rotate_left
    ·simp only [Act.put, List.setIfInBounds_toArray, List.set_cons_zero, List.set_cons_succ, i64_w, i32_w]
     rfl
    refine pure_ (i := 27) (N := some 32) (v := undef) (a' := ?_) #[true, true, true, true, true, true, true, true, true, true, true, true, true, true, true, true, true, true, true, true, true, true, true, true, true, true, true, true, false, false, false, false] rfl rfl (any_of HT_.out (by kernel_rfl)) (fun _ _ _ h => h) (Or.inr ⟨by rfl, rfl⟩) ?_ ?_
    rotate_left
    ·simp only [Act.put, List.setIfInBounds_toArray, List.set_cons_zero, List.set_cons_succ, i64_w, i32_w]
     rfl
    refine pure_ (i := 28) (N := some 33) (v := undef) (a' := ?_) #[true, true, true, true, true, true, true, true, true, true, true, true, true, true, true, true, true, true, true, true, true, true, true, true, true, true, true, true, true, false, false, false] rfl rfl (any_of HT_.out (by kernel_rfl)) (fun _ _ _ h => h) (Or.inr ⟨by rfl, rfl⟩) ?_ ?_
    rotate_left
    ·simp only [Act.put, List.setIfInBounds_toArray, List.set_cons_zero, List.set_cons_succ, i64_w, i32_w]
     rfl
    refine pure_ (i := 29) (N := some 34) (v := undef) (a' := ?_) #[true, true, true, true, true, true, true, true, true, true, true, true, true, true, true, true, true, true, true, true, true, true, true, true, true, true, true, true, true, true, false, false] rfl rfl (any_of HT_.out (by kernel_rfl)) (fun _ _ _ h => h) (Or.inr ⟨by rfl, rfl⟩) ?_ ?_
    rotate_left
    ·simp only [Act.put, List.setIfInBounds_toArray, List.set_cons_zero, List.set_cons_succ, i64_w, i32_w]
     rfl
    refine pure_ (i := 30) (N := some 35) (v := ?_) (a' := ?_) #[true, true, true, true, true, true, true, true, true, true, true, true, true, true, true, true, true, true, true, true, true, true, true, true, true, true, true, true, true, true, true, false] rfl rfl (any_of HT_.out (by kernel_rfl)) (fun _ _ _ h => h) (Or.inl ⟨by rfl, ?_⟩) ?_ ?_
    rotate_left
    ·intro w'
     go_simp
     with_reducible rfl
    rotate_left
    ·simp only [Act.put, List.setIfInBounds_toArray, List.set_cons_zero, List.set_cons_succ, i64_w, i32_w]
     rfl
    refine pure_ (i := 31) (N := some 4) (v := ?_) (a' := ?_) #[true, true, true, true, true, true, true, true, true, true, true, true, true, true, true, true, true, true, true, true, true, true, true, true, true, true, true, true, true, true, true, true] rfl rfl (any_of HT_.out (by kernel_rfl)) (fun _ _ _ h => h) (Or.inl ⟨by rfl, ?_⟩) ?_ ?_
    rotate_left
    ·intro w'
     go_simp
     with_reducible rfl
    rotate_left
    ·simp only [Act.put, List.setIfInBounds_toArray, List.set_cons_zero, List.set_cons_succ, i64_w, i32_w]
     rfl
    refine done_ (done_of HT_.out (by kernel_rfl)) ?_
    try go_wp2
    go_ret
    exact ⟨er_, by repeat (first | (with_reducible first | exact HB.out | apply below_alloc | apply pw_below_drewN | apply below_drew1 | refine below_set ?_ GE103.out | refine below_set ?_ GE104.out) | exact HB.out)⟩
  ·replace c6 := Bool.eq_false_iff.mpr c6
   subst c6
   rw [if_neg (show ¬ (false = true) by decide)] at H
   obtain rfl := Option.some.inj H
   go_enter Try.func188, Try.ntmps188
   try go_wp2_with (first | ((with_reducible refine gate_dst (N := 2) rfl ?_); (try (refine gate_guard (by rfl) ?_; dsimp only)); refine box_event ?hg (N := 2) ?hd (cs := #[.slice A0_0 l0_0.length c0_0]) (t := 31) ?hr ?_; (case hd => rfl); (case hg => rfl); (case hr => exact gs_); intro gb103 hg w20 hbox hb; have BK103 := Aside0.mk (hbox); have GW103 := gE_ HB hg; have GE103 := gE_ HB hg; replace HB := Aside0.mk (below_step (by repeat (first | (with_reducible first | exact HB.out | apply ba_ | apply bn_ | apply bd_) | exact HB.out)) hb); clear hb hbox hg) | ((with_reducible refine gate_dst (N := 3) rfl ?_); (try (refine gate_guard (by rfl) ?_; dsimp only)); refine box_event ?hg (N := 3) ?hd (cs := #[.int .i64 a1_0, .int .i64 a1_1, .int .i64 a1_2, .int .i64 a1_3]) (t := 32) ?hr ?_; (case hd => rfl); (case hg => rfl); (case hr => exact gs_); intro gb104 hg w21 hbox hb; have BK104 := Aside0.mk (hbox); have GW104 := gE_ HB hg; have GE104 := gE_ HB hg; replace HB := Aside0.mk (below_step (by repeat (first | (with_reducible first | exact HB.out | apply ba_ | apply bn_ | apply bd_ | refine bset_ ?_ (by assumption)) | exact HB.out)) hb); have NB103_104 := nB_ BK103 hg; have NB104_103 := nA_ BK103 hg; replace BK103 := bB_ BK103 hb; clear hb hbox hg))
   replace BK103 := Aside0.mk (blk_drew BK103.out)
   replace BK104 := Aside0.mk (blk_drew BK104.out)
   replace HB := Aside0.mk (below_drew1 HB.out)
   refine start_ (n := 32) (S := fun w' => w'.cell? ⟨gb103, 0, none⟩ = some (.slice A0_0 l0_0.length c0_0) ∧ w'.cell? ⟨gb104, 0, none⟩ = some (.int .i64 a1_0) ∧ w'.cell? ⟨gb104, 1, none⟩ = some (.int .i64 a1_1) ∧ w'.cell? ⟨gb104, 2, none⟩ = some (.int .i64 a1_2) ∧ w'.cell? ⟨gb104, 3, none⟩ = some (.int .i64 a1_3)) (ds := []) #[false, false, false, false, false, false, false, false, false, false, false, false, false, false, false, false, false, false, false, false, false, false, false, false, false, false, false, false, false, false, false, false] (by kernel_rfl) rfl rfl ⟨(blk_cell BK103.out 0).trans rfl, (blk_cell BK104.out 0).trans rfl, (blk_cell BK104.out 1).trans rfl, (blk_cell BK104.out 2).trans rfl, (blk_cell BK104.out 3).trans rfl⟩ (fun hHeld => ?_); refine with_tabW impl_Memory_hasWindow.tab1 impl_Memory_hasWindow.bits1 (fun HT_ HW_ => ?_)
   generalize w21.drew = w22 at BK103 BK104 HB hHeld ⊢
   refine pure_ (i := 1) (N := some 6) (v := ?_) (a' := ?_) #[false, true, false, false, false, false, false, false, false, false, false, false, false, false, false, false, false, false, false, false, false, false, false, false, false, false, false, false, false, false, false, false] rfl rfl (any_of HT_.out (by kernel_rfl)) (fun _ _ _ h => h) (Or.inl ⟨by rfl, ?_⟩) ?_ ?_
   rotate_left
   ·intro w'
    go_simp
    with_reducible rfl
   rotate_left
   ·simp only [Act.put, List.setIfInBounds_toArray, List.set_cons_zero, List.set_cons_succ, i64_w, i32_w]
    rfl
   refine take_ (i := 0) (N := some 5) (v := ?_) (a' := ?_) #[true, true, false, false, false, false, false, false, false, false, false, false, false, false, false, false, false, false, false, false, false, false, false, false, false, false, false, false, false, false, false, false] rfl rfl (take_ofW HT_.out HW_.out (by kernel_rfl)) (fun _ _ _ h => h) (Or.inl ⟨by rfl, ?_⟩) hHeld ?_ ?_
   rotate_left
   ·rintro w' ⟨s0, s1, s2, s3, s4⟩
    go_simp
    with_reducible rfl
   rotate_left
   ·simp only [Act.put, List.setIfInBounds_toArray, List.set_cons_zero, List.set_cons_succ, i64_w, i32_w]
    rfl
   refine take_ (i := 2) (N := some 7) (v := ?_) (a' := ?_) #[true, true, true, false, false, false, false, false, false, false, false, false, false, false, false, false, false, false, false, false, false, false, false, false, false, false, false, false, false, false, false, false] rfl rfl (take_ofW HT_.out HW_.out (by kernel_rfl)) (fun _ _ _ h => h) (Or.inl ⟨by rfl, ?_⟩) hHeld ?_ ?_
   rotate_left
   ·rintro w' ⟨s0, s1, s2, s3, s4⟩
    go_simp
    with_reducible rfl
   rotate_left
   ·simp only [Act.put, List.setIfInBounds_toArray, List.set_cons_zero, List.set_cons_succ, i64_w, i32_w]
    rfl
   refine one_ (i := 3) (N := some 8) #[true, true, true, true, false, false, false, false, false, false, false, false, false, false, false, false, false, false, false, false, false, false, false, false, false, false, false, false, false, false, false, false] rfl rfl (one_of HT_.out (by kernel_rfl)) (by decide) (fun K hK => ?_)
   refine goes_ Try.func204 (by kernel_rfl) rfl #[.agg #[.slice A0_0 l0_0.length c0_0], .int .i64 a1_0] (by rfl) rfl rfl ar_ ?_
   with_reducible refine (impl_Memory_hasArray.calls _ _ l0_0 a1_0 true _ ?side1 ?side2 A3.out).mono ?_
   (case side1 => exact cS_ (Kd.C_below HR0_0.out HB.out))
   (case side2 => exact HC0_0.out)
   rintro e w23 ⟨rfl, hb⟩
   refine ⟨_, rfl, ?_⟩
   replace BK103 := bB_ BK103 hb
   replace BK104 := bB_ BK104 hb
   replace HB := Aside0.mk (below_step (by repeat (first | (with_reducible first | exact HB.out | apply ba_ | apply bn_ | apply bd_ | refine bset_ ?_ (by assumption)) | exact HB.out)) hb)
   (try clear hb)
   (try clear hb2)
   (try clear hk)
   (try clear hi)
   refine hK.out _ _ ⟨(blk_cell BK103.out 0).trans rfl, (blk_cell BK104.out 0).trans rfl, (blk_cell BK104.out 1).trans rfl, (blk_cell BK104.out 2).trans rfl, (blk_cell BK104.out 3).trans rfl⟩ (fun hHeld => ?_)
   clear hK K
   refine norm_ (a' := ?_) ?_ ?_
   rotate_left
   ·show Act.put _ (some 8) _ = _
    simp only [Act.put, List.setIfInBounds_toArray, List.set_cons_zero, List.set_cons_succ, i64_w, i32_w]
    rfl
   refine pure_ (i := 4) (N := some 9) (v := ?_) (a' := ?_) #[true, true, true, true, true, false, false, false, false, false, false, false, false, false, false, false, false, false, false, false, false, false, false, false, false, false, false, false, false, false, false, false] rfl rfl (any_of HT_.out (by kernel_rfl)) (fun _ _ _ h => h) (Or.inl ⟨by rfl, ?_⟩) ?_ ?_
   rotate_left
   ·intro w'
    go_simp
    with_reducible rfl
   rotate_left
   ·simp only [Act.put, List.setIfInBounds_toArray, List.set_cons_zero, List.set_cons_succ, i64_w, i32_w]
    rfl
   refine pure_ (i := 5) (N := some 10) (v := ?_) (a' := ?_) #[true, true, true, true, true, true, false, false, false, false, false, false, false, false, false, false, false, false, false, false, false, false, false, false, false, false, false, false, false, false, false, false] rfl rfl (any_of HT_.out (by kernel_rfl)) (fun _ _ _ h => h) (Or.inl ⟨by rfl, ?_⟩) ?_ ?_
   rotate_left
   ·intro w'
    go_simp
    with_reducible rfl
   rotate_left
   ·simp only [Act.put, List.setIfInBounds_toArray, List.set_cons_zero, List.set_cons_succ, i64_w, i32_w]
    rfl
   refine take_ (i := 6) (N := some 11) (v := ?_) (a' := ?_) #[true, true, true, true, true, true, true, false, false, false, false, false, false, false, false, false, false, false, false, false, false, false, false, false, false, false, false, false, false, false, false, false] rfl rfl (take_ofW HT_.out HW_.out (by kernel_rfl)) (fun _ _ _ h => h) (Or.inl ⟨by rfl, ?_⟩) hHeld ?_ ?_
   rotate_left
   ·rintro w' ⟨s0, s1, s2, s3, s4⟩
    go_simp
    with_reducible rfl
   rotate_left
   ·simp only [Act.put, List.setIfInBounds_toArray, List.set_cons_zero, List.set_cons_succ, i64_w, i32_w]
    rfl
   refine one_ (i := 7) (N := some 12) #[true, true, true, true, true, true, true, true, false, false, false, false, false, false, false, false, false, false, false, false, false, false, false, false, false, false, false, false, false, false, false, false] rfl rfl (one_of HT_.out (by kernel_rfl)) (by decide) (fun K hK => ?_)
   refine goes_ Try.func123 (by kernel_rfl) rfl #[.int .i64 a1_3, .int .i64 0, .int .i64 64] (by rfl) rfl rfl ar_ ?_
   with_reducible refine (impl_within.calls a1_3 0 64 false _ A5.out).mono ?_
   rintro e w' ⟨rfl, ⟨nd, rfl⟩⟩
   refine ⟨_, rfl, ?_⟩
   refine hK.out _ _ ⟨(blk_cell BK103.out 0).trans rfl, (blk_cell BK104.out 0).trans rfl, (blk_cell BK104.out 1).trans rfl, (blk_cell BK104.out 2).trans rfl, (blk_cell BK104.out 3).trans rfl⟩ (fun hHeld => ?_)
   clear hK K
   refine norm_ (a' := ?_) ?_ ?_
   rotate_left
   ·show Act.put _ (some 12) _ = _
    simp only [Act.put, List.setIfInBounds_toArray, List.set_cons_zero, List.set_cons_succ, i64_w, i32_w]
    rfl
   refine pure_ (i := 8) (N := some 13) (v := ?_) (a' := ?_) #[true, true, true, true, true, true, true, true, true, false, false, false, false, false, false, false, false, false, false, false, false, false, false, false, false, false, false, false, false, false, false, false] rfl rfl (any_of HT_.out (by kernel_rfl)) (fun _ _ _ h => h) (Or.inl ⟨by rfl, ?_⟩) ?_ ?_
   rotate_left
   ·intro w'
    go_simp
    with_reducible rfl
   rotate_left
   ·simp only [Act.put, List.setIfInBounds_toArray, List.set_cons_zero, List.set_cons_succ, i64_w, i32_w]
    rfl
   refine pure_ (i := 9) (N := some 14) (v := ?_) (a' := ?_) #[true, true, true, true, true, true, true, true, true, true, false, false, false, false, false, false, false, false, false, false, false, false, false, false, false, false, false, false, false, false, false, false] rfl rfl (any_of HT_.out (by kernel_rfl)) (fun _ _ _ h => h) (Or.inl ⟨by rfl, ?_⟩) ?_ ?_
   rotate_left
   ·intro w'
    go_simp
    with_reducible rfl
   rotate_left
   ·simp only [Act.put, List.setIfInBounds_toArray, List.set_cons_zero, List.set_cons_succ, i64_w, i32_w]
    rfl
   refine pure_ (i := 10) (N := some 15) (v := undef) (a' := ?_) #[true, true, true, true, true, true, true, true, true, true, true, false, false, false, false, false, false, false, false, false, false, false, false, false, false, false, false, false, false, false, false, false] rfl rfl (any_of HT_.out (by kernel_rfl)) (fun _ _ _ h => h) (Or.inr ⟨by rfl, rfl⟩) ?_ ?_
   rotate_left
   ·simp only [Act.put, List.setIfInBounds_toArray, List.set_cons_zero, List.set_cons_succ, i64_w, i32_w]
    rfl
   refine pure_ (i := 11) (N := some 16) (v := undef) (a' := ?_) #[true, true, true, true, true, true, true, true, true, true, true, true, false, false, false, false, false, false, false, false, false, false, false, false, false, false, false, false, false, false, false, false] rfl rfl (any_of HT_.out (by kernel_rfl)) (fun _ _ _ h => h) (Or.inr ⟨by rfl, rfl⟩) ?_ ?_
   rotate_left
   ·simp only [Act.put, List.setIfInBounds_toArray, List.set_cons_zero, List.set_cons_succ, i64_w, i32_w]
    rfl
   refine pure_ (i := 12) (N := some 17) (v := undef) (a' := ?_) #[true, true, true, true, true, true, true, true, true, true, true, true, true, false, false, false, false, false, false, false, false, false, false, false, false, false, false, false, false, false, false, false] rfl rfl (any_of HT_.out (by kernel_rfl)) (fun _ _ _ h => h) (Or.inr ⟨by rfl, rfl⟩) ?_ ?_
   rotate_left
   ·simp only [Act.put, List.setIfInBounds_toArray, List.set_cons_zero, List.set_cons_succ, i64_w, i32_w]
    rfl
   refine pure_ (i := 13) (N := some 18) (v := undef) (a' := ?_) #[true, true, true, true, true, true, true, true, true, true, true, true, true, true, false, false, false, false, false, false, false, false, false, false, false, false, false, false, false, false, false, false] rfl rfl (any_of HT_.out (by kernel_rfl)) (fun _ _ _ h => h) (Or.inr ⟨by rfl, rfl⟩) ?_ ?_
   rotate_left
   ·simp only [Act.put, List.setIfInBounds_toArray, List.set_cons_zero, List.set_cons_succ, i64_w, i32_w]
    rfl
   refine pure_ (i := 14) (N := some 19) (v := undef) (a' := ?_) #[true, true, true, true, true, true, true, true, true, true, true, true, true, true, true, false, false, false, false, false, false, false, false, false, false, false, false, false, false, false, false, false] rfl rfl (any_of HT_.out (by kernel_rfl)) (fun _ _ _ h => h) (Or.inr ⟨by rfl, rfl⟩) ?_ ?_
   rotate_left
   ·simp only [Act.put, List.setIfInBounds_toArray, List.set_cons_zero, List.set_cons_succ, i64_w, i32_w]
    rfl
   refine pure_ (i := 15) (N := some 20) (v := ?_) (a' := ?_) #[true, true, true, true, true, true, true, true, true, true, true, true, true, true, true, true, false, false, false, false, false, false, false, false, false, false, false, false, false, false, false, false] rfl rfl (any_of HT_.out (by kernel_rfl)) (fun _ _ _ h => h) (Or.inl ⟨by rfl, ?_⟩) ?_ ?_
   rotate_left
   ·intro w'
    go_simp
    with_reducible rfl
   rotate_left
   ·simp only [Act.put, List.setIfInBounds_toArray, List.set_cons_zero, List.set_cons_succ, i64_w, i32_w]
    rfl
   refine pure_ (i := 16) (N := some 21) (v := ?_) (a' := ?_) #[true, true, true, true, true, true, true, true, true, true, true, true, true, true, true, true, true, false, false, false, false, false, false, false, false, false, false, false, false, false, false, false] rfl rfl (any_of HT_.out (by kernel_rfl)) (fun _ _ _ h => h) (Or.inl ⟨by rfl, ?_⟩) ?_ ?_
   rotate_left
   ·intro w'
    go_simp
    with_reducible rfl
   rotate_left
   ·simp only [Act.put, List.setIfInBounds_toArray, List.set_cons_zero, List.set_cons_succ, i64_w, i32_w]
    rfl
   refine pure_ (i := 17) (N := some 22) (v := undef) (a' := ?_) #[true, true, true, true, true, true, true, true, true, true, true, true, true, true, true, true, true, true, false, false, false, false, false, false, false, false, false, false, false, false, false, false] rfl rfl (any_of HT_.out (by kernel_rfl)) (fun _ _ _ h => h) (Or.inr ⟨by rfl, rfl⟩) ?_ ?_
   rotate_left
   ·simp only [Act.put, List.setIfInBounds_toArray, List.set_cons_zero, List.set_cons_succ, i64_w, i32_w]
    rfl
   refine pure_ (i := 18) (N := some 23) (v := undef) (a' := ?_) #[true, true, true, true, true, true, true, true, true, true, true, true, true, true, true, true, true, true, true, false, false, false, false, false, false, false, false, false, false, false, false, false] rfl rfl (any_of HT_.out (by kernel_rfl)) (fun _ _ _ h => h) (Or.inr ⟨by rfl, rfl⟩) ?_ ?_
   rotate_left
   ·simp only [Act.put, List.setIfInBounds_toArray, List.set_cons_zero, List.set_cons_succ, i64_w, i32_w]
    rfl
   refine pure_ (i := 19) (N := some 24) (v := undef) (a' := ?_) #[true, true, true, true, true, true, true, true, true, true, true, true, true, true, true, true, true, true, true, true, false, false, false, false, false, false, false, false, false, false, false, false] rfl rfl (any_of HT_.out (by kernel_rfl)) (fun _ _ _ h => h) (Or.inr ⟨by rfl, rfl⟩) ?_ ?_
   rotate_left
   ·simp only [Act.put, List.setIfInBounds_toArray, List.set_cons_zero, List.set_cons_succ, i64_w, i32_w]
    rfl
   refine pure_ (i := 20) (N := some 25) (v := undef) (a' := ?_) #[true, true, true, true, true, true, true, true, true, true, true, true, true, true, true, true, true, true, true, true, true, false, false, false, false, false, false, false, false, false, false, false] rfl rfl (any_of HT_.out (by kernel_rfl)) (fun _ _ _ h => h) (Or.inr ⟨by rfl, rfl⟩) ?_ ?_
   rotate_left
   ·simp only [Act.put, List.setIfInBounds_toArray, List.set_cons_zero, List.set_cons_succ, i64_w, i32_w]
    rfl
   refine pure_ (i := 21) (N := some 26) (v := undef) (a' := ?_) #[true, true, true, true, true, true, true, true, true, true, true, true, true, true, true, true, true, true, true, true, true, true, false, false, false, false, false, false, false, false, false, false] rfl rfl (any_of HT_.out (by kernel_rfl)) (fun _ _ _ h => h) (Or.inr ⟨by rfl, rfl⟩) ?_ ?_
   rotate_left
   ·simp only [Act.put, List.setIfInBounds_toArray, List.set_cons_zero, List.set_cons_succ, i64_w, i32_w]
    rfl
   refine pure_ (i := 22) (N := some 27) (v := undef) (a' := ?_) #[true, true, true, true, true, true, true, true, true, true, true, true, true, true, true, true, true, true, true, true, true, true, true, false, false, false, false, false, false, false, false, false] rfl rfl (any_of HT_.out (by kernel_rfl)) (fun _ _ _ h => h) (Or.inr ⟨by rfl, rfl⟩) ?_ ?_
   rotate_left
   ·simp only [Act.put, List.setIfInBounds_toArray, List.set_cons_zero, List.set_cons_succ, i64_w, i32_w]
    rfl
   refine pure_ (i := 23) (N := some 28) (v := undef) (a' := ?_) #[true, true, true, true, true, true, true, true, true, true, true, true, true, true, true, true, true, true, true, true, true, true, true, true, false, false, false, false, false, false, false, false] rfl rfl (any_of HT_.out (by kernel_rfl)) (fun _ _ _ h => h) (Or.inr ⟨by rfl, rfl⟩) ?_ ?_
   rotate_left
   ·simp only [Act.put, List.setIfInBounds_toArray, List.set_cons_zero, List.set_cons_succ, i64_w, i32_w]
    rfl
   refine pure_ (i := 24) (N := some 29) (v := undef) (a' := ?_) #[true, true, true, true, true, true, true, true, true, true, true, true, true, true, true, true, true, true, true, true, true, true, true, true, true, false, false, false, false, false, false, false] rfl rfl (any_of HT_.out (by kernel_rfl)) (fun _ _ _ h => h) (Or.inr ⟨by rfl, rfl⟩) ?_ ?_
   rotate_left
   ·simp only [Act.put, List.setIfInBounds_toArray, List.set_cons_zero, List.set_cons_succ, i64_w, i32_w]
    rfl
   refine pure_ (i := 25) (N := some 30) (v := undef) (a' := ?_) #[true, true, true, true, true, true, true, true, true, true, true, true, true, true, true, true, true, true, true, true, true, true, true, true, true, true, false, false, false, false, false, false] rfl rfl (any_of HT_.out (by kernel_rfl)) (fun _ _ _ h => h) (Or.inr ⟨by rfl, rfl⟩) ?_ ?_
   rotate_left
   ·simp only [Act.put, List.setIfInBounds_toArray, List.set_cons_zero, List.set_cons_succ, i64_w, i32_w]
    rfl
   refine pure_ (i := 26) (N := some 31) (v := undef) (a' := ?_) #[true, true, true, true, true, true, true, true, true, true, true, true, true, true, true, true, true, true, true, true, true, true, true, true, true, true, true, false, false, false, false, false] rfl rfl (any_of HT_.out (by kernel_rfl)) (fun _ _ _ h => h) (Or.inr ⟨by rfl, rfl⟩) ?_ ?_
   rotate_left
   ·simp only [Act.put, List.setIfInBounds_toArray, List.set_cons_zero, List.set_cons_succ, i64_w, i32_w]
    rfl
   refine pure_ (i := 27) (N := some 32) (v := undef) (a' := ?_) #[true, true, true, true, true, true, true, true, true, true, true, true, true, true, true, true, true, true, true, true, true, true, true, true, true, true, true, true, false, false, false, false] rfl rfl (any_of HT_.out (by kernel_rfl)) (fun _ _ _ h => h) (Or.inr ⟨by rfl, rfl⟩) ?_ ?_
   rotate_left
   ·simp only [Act.put, List.setIfInBounds_toArray, List.set_cons_zero, List.set_cons_succ, i64_w, i32_w]
    rfl
   refine pure_ (i := 28) (N := some 33) (v := undef) (a' := ?_) #[true, true, true, true, true, true, true, true, true, true, true, true, true, true, true, true, true, true, true, true, true, true, true, true, true, true, true, true, true, false, false, false] rfl rfl (any_of HT_.out (by kernel_rfl)) (fun _ _ _ h => h) (Or.inr ⟨by rfl, rfl⟩) ?_ ?_
   rotate_left
   ·simp only [Act.put, List.setIfInBounds_toArray, List.set_cons_zero, List.set_cons_succ, i64_w, i32_w]
    rfl
   refine pure_ (i := 29) (N := some 34) (v := undef) (a' := ?_) #[true, true, true, true, true, true, true, true, true, true, true, true, true, true, true, true, true, true, true, true, true, true, true, true, true, true, true, true, true, true, false, false] rfl rfl (any_of HT_.out (by kernel_rfl)) (fun _ _ _ h => h) (Or.inr ⟨by rfl, rfl⟩) ?_ ?_
   rotate_left
   ·simp only [Act.put, List.setIfInBounds_toArray, List.set_cons_zero, List.set_cons_succ, i64_w, i32_w]
    rfl
   refine pure_ (i := 30) (N := some 35) (v := ?_) (a' := ?_) #[true, true, true, true, true, true, true, true, true, true, true, true, true, true, true, true, true, true, true, true, true, true, true, true, true, true, true, true, true, true, true, false] rfl rfl (any_of HT_.out (by kernel_rfl)) (fun _ _ _ h => h) (Or.inl ⟨by rfl, ?_⟩) ?_ ?_
   rotate_left
   ·intro w'
    go_simp
    with_reducible rfl
   rotate_left
   ·simp only [Act.put, List.setIfInBounds_toArray, List.set_cons_zero, List.set_cons_succ, i64_w, i32_w]
    rfl
   refine pure_ (i := 31) (N := some 4) (v := ?_) (a' := ?_) #[true, true, true, true, true, true, true, true, true, true, true, true, true, true, true, true, true, true, true, true, true, true, true, true, true, true, true, true, true, true, true, true] rfl rfl (any_of HT_.out (by kernel_rfl)) (fun _ _ _ h => h) (Or.inl ⟨by rfl, ?_⟩) ?_ ?_
   rotate_left
   ·intro w'
    go_simp
    with_reducible rfl
   rotate_left
   ·simp only [Act.put, List.setIfInBounds_toArray, List.set_cons_zero, List.set_cons_succ, i64_w, i32_w]
    rfl
   refine done_ (done_of HT_.out (by kernel_rfl)) ?_
   try go_wp2
   go_ret
   exact ⟨er_, by repeat (first | (with_reducible first | exact HB.out | apply below_alloc | apply pw_below_drewN | apply below_drew1 | refine below_set ?_ GE103.out | refine below_set ?_ GE104.out) | exact HB.out)⟩
 ·replace c4 := Bool.eq_false_iff.mpr c4
  subst c4
  rw [if_neg (show ¬ (false = true) by decide)] at H
  obtain rfl := Option.some.inj H
  go_enter Try.func188, Try.ntmps188
  try go_wp2_with (first | ((with_reducible refine gate_dst (N := 2) rfl ?_); (try (refine gate_guard (by rfl) ?_; dsimp only)); refine box_event ?hg (N := 2) ?hd (cs := #[.slice A0_0 l0_0.length c0_0]) (t := 31) ?hr ?_; (case hd => rfl); (case hg => rfl); (case hr => exact gs_); intro gb103 hg w24 hbox hb; have BK103 := Aside0.mk (hbox); have GW103 := gE_ HB hg; have GE103 := gE_ HB hg; replace HB := Aside0.mk (below_step (by repeat (first | (with_reducible first | exact HB.out | apply ba_ | apply bn_ | apply bd_) | exact HB.out)) hb); clear hb hbox hg) | ((with_reducible refine gate_dst (N := 3) rfl ?_); (try (refine gate_guard (by rfl) ?_; dsimp only)); refine box_event ?hg (N := 3) ?hd (cs := #[.int .i64 a1_0, .int .i64 a1_1, .int .i64 a1_2, .int .i64 a1_3]) (t := 32) ?hr ?_; (case hd => rfl); (case hg => rfl); (case hr => exact gs_); intro gb104 hg w25 hbox hb; have BK104 := Aside0.mk (hbox); have GW104 := gE_ HB hg; have GE104 := gE_ HB hg; replace HB := Aside0.mk (below_step (by repeat (first | (with_reducible first | exact HB.out | apply ba_ | apply bn_ | apply bd_ | refine bset_ ?_ (by assumption)) | exact HB.out)) hb); have NB103_104 := nB_ BK103 hg; have NB104_103 := nA_ BK103 hg; replace BK103 := bB_ BK103 hb; clear hb hbox hg))
  replace BK103 := Aside0.mk (blk_drew BK103.out)
  replace BK104 := Aside0.mk (blk_drew BK104.out)
  replace HB := Aside0.mk (below_drew1 HB.out)
  refine start_ (n := 32) (S := fun w' => w'.cell? ⟨gb103, 0, none⟩ = some (.slice A0_0 l0_0.length c0_0) ∧ w'.cell? ⟨gb104, 0, none⟩ = some (.int .i64 a1_0) ∧ w'.cell? ⟨gb104, 1, none⟩ = some (.int .i64 a1_1) ∧ w'.cell? ⟨gb104, 2, none⟩ = some (.int .i64 a1_2) ∧ w'.cell? ⟨gb104, 3, none⟩ = some (.int .i64 a1_3)) (ds := []) #[false, false, false, false, false, false, false, false, false, false, false, false, false, false, false, false, false, false, false, false, false, false, false, false, false, false, false, false, false, false, false, false] (by kernel_rfl) rfl rfl ⟨(blk_cell BK103.out 0).trans rfl, (blk_cell BK104.out 0).trans rfl, (blk_cell BK104.out 1).trans rfl, (blk_cell BK104.out 2).trans rfl, (blk_cell BK104.out 3).trans rfl⟩ (fun hHeld => ?_); refine with_tabW impl_Memory_hasWindow.tab1 impl_Memory_hasWindow.bits1 (fun HT_ HW_ => ?_)
  generalize w25.drew = w26 at BK103 BK104 HB hHeld ⊢
  refine pure_ (i := 1) (N := some 6) (v := ?_) (a' := ?_) #[false, true, false, false, false, false, false, false, false, false, false, false, false, false, false, false, false, false, false, false, false, false, false, false, false, false, false, false, false, false, false, false] rfl rfl (any_of HT_.out (by kernel_rfl)) (fun _ _ _ h => h) (Or.inl ⟨by rfl, ?_⟩) ?_ ?_
  rotate_left
  ·intro w'
   go_simp
   with_reducible rfl
  rotate_left
  ·simp only [Act.put, List.setIfInBounds_toArray, List.set_cons_zero, List.set_cons_succ, i64_w, i32_w]
   rfl
  refine take_ (i := 0) (N := some 5) (v := ?_) (a' := ?_) #[true, true, false, false, false, false, false, false, false, false, false, false, false, false, false, false, false, false, false, false, false, false, false, false, false, false, false, false, false, false, false, false] rfl rfl (take_ofW HT_.out HW_.out (by kernel_rfl)) (fun _ _ _ h => h) (Or.inl ⟨by rfl, ?_⟩) hHeld ?_ ?_
  rotate_left
  ·rintro w' ⟨s0, s1, s2, s3, s4⟩
   go_simp
   with_reducible rfl
  rotate_left
  ·simp only [Act.put, List.setIfInBounds_toArray, List.set_cons_zero, List.set_cons_succ, i64_w, i32_w]
   rfl
  refine take_ (i := 2) (N := some 7) (v := ?_) (a' := ?_) #[true, true, true, false, false, false, false, false, false, false, false, false, false, false, false, false, false, false, false, false, false, false, false, false, false, false, false, false, false, false, false, false] rfl rfl (take_ofW HT_.out HW_.out (by kernel_rfl)) (fun _ _ _ h => h) (Or.inl ⟨by rfl, ?_⟩) hHeld ?_ ?_
  rotate_left
  ·rintro w' ⟨s0, s1, s2, s3, s4⟩
   go_simp
   with_reducible rfl
  rotate_left
  ·simp only [Act.put, List.setIfInBounds_toArray, List.set_cons_zero, List.set_cons_succ, i64_w, i32_w]
   rfl
  refine one_ (i := 3) (N := some 8) #[true, true, true, true, false, false, false, false, false, false, false, false, false, false, false, false, false, false, false, false, false, false, false, false, false, false, false, false, false, false, false, false] rfl rfl (one_of HT_.out (by kernel_rfl)) (by decide) (fun K hK => ?_)
  refine goes_ Try.func204 (by kernel_rfl) rfl #[.agg #[.slice A0_0 l0_0.length c0_0], .int .i64 a1_0] (by rfl) rfl rfl ar_ ?_
  with_reducible refine (impl_Memory_hasArray.calls _ _ l0_0 a1_0 false _ ?side1 ?side2 A3.out).mono ?_
  (case side1 => exact cS_ (Kd.C_below HR0_0.out HB.out))
  (case side2 => exact HC0_0.out)
  rintro e w27 ⟨rfl, hb⟩
  refine ⟨_, rfl, ?_⟩
  replace BK103 := bB_ BK103 hb
  replace BK104 := bB_ BK104 hb
  replace HB := Aside0.mk (below_step (by repeat (first | (with_reducible first | exact HB.out | apply ba_ | apply bn_ | apply bd_ | refine bset_ ?_ (by assumption)) | exact HB.out)) hb)
  (try clear hb)
  (try clear hb2)
  (try clear hk)
  (try clear hi)
  refine hK.out _ _ ⟨(blk_cell BK103.out 0).trans rfl, (blk_cell BK104.out 0).trans rfl, (blk_cell BK104.out 1).trans rfl, (blk_cell BK104.out 2).trans rfl, (blk_cell BK104.out 3).trans rfl⟩ (fun hHeld => ?_)
  clear hK K
  refine norm_ (a' := ?_) ?_ ?_
  rotate_left
  ·show Act.put _ (some 8) _ = _
   simp only [Act.put, List.setIfInBounds_toArray, List.set_cons_zero, List.set_cons_succ, i64_w, i32_w]
   rfl
  refine pure_ (i := 4) (N := some 9) (v := ?_) (a' := ?_) #[true, true, true, true, true, false, false, false, false, false, false, false, false, false, false, false, false, false, false, false, false, false, false, false, false, false, false, false, false, false, false, false] rfl rfl (any_of HT_.out (by kernel_rfl)) (fun _ _ _ h => h) (Or.inl ⟨by rfl, ?_⟩) ?_ ?_
  rotate_left
  ·intro w'
   go_simp
   with_reducible rfl
  rotate_left
  ·simp only [Act.put, List.setIfInBounds_toArray, List.set_cons_zero, List.set_cons_succ, i64_w, i32_w]
   rfl
  refine pure_ (i := 5) (N := some 10) (v := undef) (a' := ?_) #[true, true, true, true, true, true, false, false, false, false, false, false, false, false, false, false, false, false, false, false, false, false, false, false, false, false, false, false, false, false, false, false] rfl rfl (any_of HT_.out (by kernel_rfl)) (fun _ _ _ h => h) (Or.inr ⟨by rfl, rfl⟩) ?_ ?_
  rotate_left
  ·simp only [Act.put, List.setIfInBounds_toArray, List.set_cons_zero, List.set_cons_succ, i64_w, i32_w]
   rfl
  refine pure_ (i := 6) (N := some 11) (v := undef) (a' := ?_) #[true, true, true, true, true, true, true, false, false, false, false, false, false, false, false, false, false, false, false, false, false, false, false, false, false, false, false, false, false, false, false, false] rfl rfl (any_of HT_.out (by kernel_rfl)) (fun _ _ _ h => h) (Or.inr ⟨by rfl, rfl⟩) ?_ ?_
  rotate_left
  ·simp only [Act.put, List.setIfInBounds_toArray, List.set_cons_zero, List.set_cons_succ, i64_w, i32_w]
   rfl
  refine pure_ (i := 7) (N := some 12) (v := undef) (a' := ?_) #[true, true, true, true, true, true, true, true, false, false, false, false, false, false, false, false, false, false, false, false, false, false, false, false, false, false, false, false, false, false, false, false] rfl rfl (any_of HT_.out (by kernel_rfl)) (fun _ _ _ h => h) (Or.inr ⟨by rfl, rfl⟩) ?_ ?_
  rotate_left
  ·simp only [Act.put, List.setIfInBounds_toArray, List.set_cons_zero, List.set_cons_succ, i64_w, i32_w]
   rfl
  refine pure_ (i := 8) (N := some 13) (v := ?_) (a' := ?_) #[true, true, true, true, true, true, true, true, true, false, false, false, false, false, false, false, false, false, false, false, false, false, false, false, false, false, false, false, false, false, false, false] rfl rfl (any_of HT_.out (by kernel_rfl)) (fun _ _ _ h => h) (Or.inl ⟨by rfl, ?_⟩) ?_ ?_
  rotate_left
  ·intro w'
   go_simp
   with_reducible rfl
  rotate_left
  ·simp only [Act.put, List.setIfInBounds_toArray, List.set_cons_zero, List.set_cons_succ, i64_w, i32_w]
   rfl
  refine pure_ (i := 9) (N := some 14) (v := ?_) (a' := ?_) #[true, true, true, true, true, true, true, true, true, true, false, false, false, false, false, false, false, false, false, false, false, false, false, false, false, false, false, false, false, false, false, false] rfl rfl (any_of HT_.out (by kernel_rfl)) (fun _ _ _ h => h) (Or.inl ⟨by rfl, ?_⟩) ?_ ?_
  rotate_left
  ·intro w'
   go_simp
   with_reducible rfl
  rotate_left
  ·simp only [Act.put, List.setIfInBounds_toArray, List.set_cons_zero, List.set_cons_succ, i64_w, i32_w]
   rfl
  refine pure_ (i := 10) (N := some 15) (v := undef) (a' := ?_) #[true, true, true, true, true, true, true, true, true, true, true, false, false, false, false, false, false, false, false, false, false, false, false, false, false, false, false, false, false, false, false, false] rfl rfl (any_of HT_.out (by kernel_rfl)) (fun _ _ _ h => h) (Or.inr ⟨by rfl, rfl⟩) ?_ ?_
  rotate_left
  ·simp only [Act.put, List.setIfInBounds_toArray, List.set_cons_zero, List.set_cons_succ, i64_w, i32_w]
   rfl
  refine pure_ (i := 11) (N := some 16) (v := undef) (a' := ?_) #[true, true, true, true, true, true, true, true, true, true, true, true, false, false, false, false, false, false, false, false, false, false, false, false, false, false, false, false, false, false, false, false] rfl rfl (any_of HT_.out (by kernel_rfl)) (fun _ _ _ h => h) (Or.inr ⟨by rfl, rfl⟩) ?_ ?_
  rotate_left
  ·simp only [Act.put, List.setIfInBounds_toArray, List.set_cons_zero, List.set_cons_succ, i64_w, i32_w]
   rfl
  refine pure_ (i := 12) (N := some 17) (v := undef) (a' := ?_) #[true, true, true, true, true, true, true, true, true, true, true, true, true, false, false, false, false, false, false, false, false, false, false, false, false, false, false, false, false, false, false, false] rfl rfl (any_of HT_.out (by kernel_rfl)) (fun _ _ _ h => h) (Or.inr ⟨by rfl, rfl⟩) ?_ ?_
  rotate_left
  ·simp only [Act.put, List.setIfInBounds_toArray, List.set_cons_zero, List.set_cons_succ, i64_w, i32_w]
   rfl
  refine pure_ (i := 13) (N := some 18) (v := undef) (a' := ?_) #[true, true, true, true, true, true, true, true, true, true, true, true, true, true, false, false, false, false, false, false, false, false, false, false, false, false, false, false, false, false, false, false] rfl rfl (any_of HT_.out (by kernel_rfl)) (fun _ _ _ h => h) (Or.inr ⟨by rfl, rfl⟩) ?_ ?_
  rotate_left
  ·simp only [Act.put, List.setIfInBounds_toArray, List.set_cons_zero, List.set_cons_succ, i64_w, i32_w]
   rfl
  refine pure_ (i := 14) (N := some 19) (v := undef) (a' := ?_) #[true, true, true, true, true, true, true, true, true, true, true, true, true, true, true, false, false, false, false, false, false, false, false, false, false, false, false, false, false, false, false, false] rfl rfl (any_of HT_.out (by kernel_rfl)) (fun _ _ _ h => h) (Or.inr ⟨by rfl, rfl⟩) ?_ ?_
  rotate_left
  ·simp only [Act.put, List.setIfInBounds_toArray, List.set_cons_zero, List.set_cons_succ, i64_w, i32_w]
   rfl
  refine pure_ (i := 15) (N := some 20) (v := ?_) (a' := ?_) #[true, true, true, true, true, true, true, true, true, true, true, true, true, true, true, true, false, false, false, false, false, false, false, false, false, false, false, false, false, false, false, false] rfl rfl (any_of HT_.out (by kernel_rfl)) (fun _ _ _ h => h) (Or.inl ⟨by rfl, ?_⟩) ?_ ?_
  rotate_left
  ·intro w'
   go_simp
   with_reducible rfl
  rotate_left
  ·simp only [Act.put, List.setIfInBounds_toArray, List.set_cons_zero, List.set_cons_succ, i64_w, i32_w]
   rfl
  refine pure_ (i := 16) (N := some 21) (v := ?_) (a' := ?_) #[true, true, true, true, true, true, true, true, true, true, true, true, true, true, true, true, true, false, false, false, false, false, false, false, false, false, false, false, false, false, false, false] rfl rfl (any_of HT_.out (by kernel_rfl)) (fun _ _ _ h => h) (Or.inl ⟨by rfl, ?_⟩) ?_ ?_
  rotate_left
  ·intro w'
   go_simp
   with_reducible rfl
  rotate_left
  ·simp only [Act.put, List.setIfInBounds_toArray, List.set_cons_zero, List.set_cons_succ, i64_w, i32_w]
   rfl
  refine pure_ (i := 17) (N := some 22) (v := undef) (a' := ?_) #[true, true, true, true, true, true, true, true, true, true, true, true, true, true, true, true, true, true, false, false, false, false, false, false, false, false, false, false, false, false, false, false] rfl rfl (any_of HT_.out (by kernel_rfl)) (fun _ _ _ h => h) (Or.inr ⟨by rfl, rfl⟩) ?_ ?_
  rotate_left
  ·simp only [Act.put, List.setIfInBounds_toArray, List.set_cons_zero, List.set_cons_succ, i64_w, i32_w]
   rfl
  refine pure_ (i := 18) (N := some 23) (v := undef) (a' := ?_) #[true, true, true, true, true, true, true, true, true, true, true, true, true, true, true, true, true, true, true, false, false, false, false, false, false, false, false, false, false, false, false, false] rfl rfl (any_of HT_.out (by kernel_rfl)) (fun _ _ _ h => h) (Or.inr ⟨by rfl, rfl⟩) ?_ ?_
  rotate_left
  ·simp only [Act.put, List.setIfInBounds_toArray, List.set_cons_zero, List.set_cons_succ, i64_w, i32_w]
   rfl
  refine pure_ (i := 19) (N := some 24) (v := undef) (a' := ?_) #[true, true, true, true, true, true, true, true, true, true, true, true, true, true, true, true, true, true, true, true, false, false, false, false, false, false, false, false, false, false, false, false] rfl rfl (any_of HT_.out (by kernel_rfl)) (fun _ _ _ h => h) (Or.inr ⟨by rfl, rfl⟩) ?_ ?_
  rotate_left
  ·simp only [Act.put, List.setIfInBounds_toArray, List.set_cons_zero, List.set_cons_succ, i64_w, i32_w]
   rfl
  refine pure_ (i := 20) (N := some 25) (v := undef) (a' := ?_) #[true, true, true, true, true, true, true, true, true, true, true, true, true, true, true, true, true, true, true, true, true, false, false, false, false, false, false, false, false, false, false, false] rfl rfl (any_of HT_.out (by kernel_rfl)) (fun _ _ _ h => h) (Or.inr ⟨by rfl, rfl⟩) ?_ ?_
  rotate_left
  ·simp only [Act.put, List.setIfInBounds_toArray, List.set_cons_zero, List.set_cons_succ, i64_w, i32_w]
   rfl
  refine pure_ (i := 21) (N := some 26) (v := undef) (a' := ?_) #[true, true, true, true, true, true, true, true, true, true, true, true, true, true, true, true, true, true, true, true, true, true, false, false, false, false, false, false, false, false, false, false] rfl rfl (any_of HT_.out (by kernel_rfl)) (fun _ _ _ h => h) (Or.inr ⟨by rfl, rfl⟩) ?_ ?_
  rotate_left
  ·simp only [Act.put, List.setIfInBounds_toArray, List.set_cons_zero, List.set_cons_succ, i64_w, i32_w]
   rfl
  refine pure_ (i := 22) (N := some 27) (v := undef) (a' := ?_) #[true, true, true, true, true, true, true, true, true, true, true, true, true, true, true, true, true, true, true, true, true, true, true, false, false, false, false, false, false, false, false, false] rfl rfl (any_of HT_.out (by kernel_rfl)) (fun _ _ _ h => h) (Or.inr ⟨by rfl, rfl⟩) ?_ ?_
  rotate_left
  ·simp only [Act.put, List.setIfInBounds_toArray, List.set_cons_zero, List.set_cons_succ, i64_w, i32_w]
   rfl
  refine pure_ (i := 23) (N := some 28) (v := undef) (a' := ?_) #[true, true, true, true, true, true, true, true, true, true, true, true, true, true, true, true, true, true, true, true, true, true, true, true, false, false, false, false, false, false, false, false] rfl rfl (any_of HT_.out (by kernel_rfl)) (fun _ _ _ h => h) (Or.inr ⟨by rfl, rfl⟩) ?_ ?_
  rotate_left
  ·simp only [Act.put, List.setIfInBounds_toArray, List.set_cons_zero, List.set_cons_succ, i64_w, i32_w]
   rfl
  refine pure_ (i := 24) (N := some 29) (v := undef) (a' := ?_) #[true, true, true, true, true, true, true, true, true, true, true, true, true, true, true, true, true, true, true, true, true, true, true, true, true, false, false, false, false, false, false, false] rfl rfl (any_of HT_.out (by kernel_rfl)) (fun _ _ _ h => h) (Or.inr ⟨by rfl, rfl⟩) ?_ ?_
  rotate_left
  ·simp only [Act.put, List.setIfInBounds_toArray, List.set_cons_zero, List.set_cons_succ, i64_w, i32_w]
   rfl
  refine pure_ (i := 25) (N := some 30) (v := undef) (a' := ?_) #[true, true, true, true, true, true, true, true, true, true, true, true, true, true, true, true, true, true, true, true, true, true, true, true, true, true, false, false, false, false, false, false] rfl rfl (any_of HT_.out (by kernel_rfl)) (fun _ _ _ h => h) (Or.inr ⟨by rfl, rfl⟩) ?_ ?_
  rotate_left
  ·simp only [Act.put, List.setIfInBounds_toArray, List.set_cons_zero, List.set_cons_succ, i64_w, i32_w]
   rfl
  refine pure_ (i := 26) (N := some 31) (v := undef) (a' := ?_) #[true, true, true, true, true, true, true, true, true, true, true, true, true, true, true, true, true, true, true, true, true, true, true, true, true, true, true, false, false, false, false, false] rfl rfl (any_of HT_.out (by kernel_rfl)) (fun _ _ _ h => h) (Or.inr ⟨by rfl, rfl⟩) ?_ ?_
  rotate_left
  ·simp only [Act.put, List.setIfInBounds_toArray, List.set_cons_zero, List.set_cons_succ, i64_w, i32_w]
   rfl
  refine pure_ (i := 27) (N := some 32) (v := undef) (a' := ?_) #[true, true, true, true, true, true, true, true, true, true, true, true, true, true, true, true, true, true, true, true, true, true, true, true, true, true, true, true, false, false, false, false] rfl rfl (any_of HT_.out (by kernel_rfl)) (fun _ _ _ h => h) (Or.inr ⟨by rfl, rfl⟩) ?_ ?_
  rotate_left
  ·simp only [Act.put, List.setIfInBounds_toArray, List.set_cons_zero, List.set_cons_succ, i64_w, i32_w]
   rfl
  refine pure_ (i := 28) (N := some 33) (v := undef) (a' := ?_) #[true, true, true, true, true, true, true, true, true, true, true, true, true, true, true, true, true, true, true, true, true, true, true, true, true, true, true, true, true, false, false, false] rfl rfl (any_of HT_.out (by kernel_rfl)) (fun _ _ _ h => h) (Or.inr ⟨by rfl, rfl⟩) ?_ ?_
  rotate_left
  ·simp only [Act.put, List.setIfInBounds_toArray, List.set_cons_zero, List.set_cons_succ, i64_w, i32_w]
   rfl
  refine pure_ (i := 29) (N := some 34) (v := undef) (a' := ?_) #[true, true, true, true, true, true, true, true, true, true, true, true, true, true, true, true, true, true, true, true, true, true, true, true, true, true, true, true, true, true, false, false] rfl rfl (any_of HT_.out (by kernel_rfl)) (fun _ _ _ h => h) (Or.inr ⟨by rfl, rfl⟩) ?_ ?_
  rotate_left
  ·simp only [Act.put, List.setIfInBounds_toArray, List.set_cons_zero, List.set_cons_succ, i64_w, i32_w]
   rfl
  refine pure_ (i := 30) (N := some 35) (v := ?_) (a' := ?_) #[true, true, true, true, true, true, true, true, true, true, true, true, true, true, true, true, true, true, true, true, true, true, true, true, true, true, true, true, true, true, true, false] rfl rfl (any_of HT_.out (by kernel_rfl)) (fun _ _ _ h => h) (Or.inl ⟨by rfl, ?_⟩) ?_ ?_
  rotate_left
  ·intro w'
   go_simp
   with_reducible rfl
  rotate_left
  ·simp only [Act.put, List.setIfInBounds_toArray, List.set_cons_zero, List.set_cons_succ, i64_w, i32_w]
   rfl
  refine pure_ (i := 31) (N := some 4) (v := ?_) (a' := ?_) #[true, true, true, true, true, true, true, true, true, true, true, true, true, true, true, true, true, true, true, true, true, true, true, true, true, true, true, true, true, true, true, true] rfl rfl (any_of HT_.out (by kernel_rfl)) (fun _ _ _ h => h) (Or.inl ⟨by rfl, ?_⟩) ?_ ?_
  rotate_left
  ·intro w'
   go_simp
   with_reducible rfl
  rotate_left
  ·simp only [Act.put, List.setIfInBounds_toArray, List.set_cons_zero, List.set_cons_succ, i64_w, i32_w]
   rfl
  refine done_ (done_of HT_.out (by kernel_rfl)) ?_
  try go_wp2
  go_ret
  exact ⟨er_, by repeat (first | (with_reducible first | exact HB.out | apply below_alloc | apply pw_below_drewN | apply below_drew1 | refine below_set ?_ GE103.out | refine below_set ?_ GE104.out) | exact HB.out)⟩
end Go.Proofs.Ytmkcbbbknbahgaa.P
namespace Go.Proofs.Ytmkcbbbknbahgaa.P
open Go.RowKit Go.Proofs.YtmkcbbbknbahgaaW.PrintWords Go.Proofs.YtmkcbbbknbahgaaW.PrintLast Go.Proofs.YtmkcbbbknbahgaaW.PrintMore
attribute [local go_sem] max2_int min2_int max_two min_two max_three min_three max_four min_four   -- for this text's walks alone
set_option linter.unusedVariables false
set_option linter.unusedSimpArgs false

def impl_IsMemory.l0 : Nat → List (List Int) → Int → Int → List (List Int) → Option (Bool)
 | 0, _, _, _, _ => none
 | k + 1, x6, x7, x8, x305000 => if x8 < x7 then (if 0 ≤ x8 then (if x8 < (x6.length : Int) then ((impl_within.f ((rd_L1 x6 x8).length : Int) 1 64).bind fun t306 => (if t306 = true then (impl_IsMemory.l0 k x6 x7 (wrap64 (x8 + 1)) x305000) else (some false))) else (none)) else (none)) else (some (decide ((x305000.length : Int) ≤ 16)))

def impl_IsMemory.f (k : Nat) (l0_0 : List (List Int)) : Option (Bool) := impl_IsMemory.l0 k l0_0 (l0_0.length : Int) 0 l0_0

set_option maxHeartbeats 8000000 in
set_option maxRecDepth 100000 in
theorem impl_IsMemory.calls (k : Nat) (A0_0 : Option Addr) (c0_0 : Nat) (l0_0 : List (List Int)) (r : Bool) (w : World) (hr0_0 : Kd.C (Kd.slice 5 (Kd.int .u8)) w A0_0 l0_0.length l0_0) (hc0_0 : l0_0.length ≤ c0_0) (h : impl_IsMemory.f k l0_0 = some r) :
  Calls Try.prog 162 #[.agg #[.slice A0_0 l0_0.length c0_0]] w fun e w' => e = .returned (.bool r) ∧ Below w.heap.size w w' := by
 have hu31 := Try.underlying31
 have HR0_0 := Aside0.mk hr0_0
 have HC0_0 := Aside0.mk hc0_0
 clear hr0_0 hc0_0
 have HB := Aside0.mk (Below.refl w.heap.size w)
 have H : (impl_IsMemory.l0 k l0_0 (l0_0.length : Int) 0 l0_0) = some r := h
 clear h
 have H' := Aside0.mk H
 clear H
 go_enter Try.func162, Try.ntmps162
 go_wp2_with (first | ((with_reducible refine gate_dst (N := 1) rfl ?_); refine box_event ?hg (N := 1) ?hd (cs := #[.slice A0_0 l0_0.length c0_0]) (t := 31) ?hr ?_; (case hd => rfl); (case hg => rfl); (case hr => exact gs_); intro gb304 hg w2 hbox hb; have BK304 := Aside0.mk (hbox); have GW304 := gE_ HB hg; have GE304 := gE_ HB hg; replace HB := Aside0.mk (below_step (by repeat (first | (with_reducible first | exact HB.out | apply ba_ | apply bn_ | apply bd_) | exact HB.out)) hb); clear hb hbox hg; obtain ⟨hcz3_0, hfz3_0⟩ := zc1_ BK304))
 go_loopg [8] k (fun kq v8 w' => ∃ (x8_1 : Int), v8 = .int .i64 x8_1 ∧ Aside0 (impl_IsMemory.l0 kq l0_0 (l0_0.length : Int) x8_1 l0_0 = some r) ∧ Aside0 (kq ≤ k) ∧ Aside0 (w'.heap[gb304]? = some (.cells #[(.slice A0_0 l0_0.length c0_0)] 31 (0, 0))) ∧ Aside0 (Below w.heap.size w w'))
 case atStart => exact ⟨(0), (by first | rfl | (simp; done) | (simp [*]; done)), H', ⟨Nat.le_refl _⟩, ⟨by (with_reducible repeat first | apply kb1_ | apply kb2_ | apply kb3_); exact BK304.out⟩, ⟨by repeat (first | (with_reducible first | exact HB.out | apply below_alloc | apply pw_below_drewN | apply below_drew1 | refine below_set ?_ GE304.out) | exact HB.out)⟩⟩
 case round =>
  clear H'
  try clear c1
  try clear p2
  try clear hcz3_0
  try clear hfz3_0
  obtain ⟨x8_1, rfl, HA, HK1, BK304, HB⟩ := hrel
  cases gk with
  | zero => exact absurd HA.out (by simp [impl_IsMemory.l0])
  | succ k1 =>
   have H := HA.out
   clear HA
   simp only [impl_IsMemory.l0] at H
   by_cases c4 : x8_1 < (l0_0.length : Int)
   ·rw [if_pos c4] at H
    have c4b0 : decide (x8_1 < (l0_0.length : Int)) = true := decide_eq_true c4
    clear c4
    by_cases c5 : 0 ≤ x8_1
    ·rw [if_pos c5] at H
     have c5b0 : decide (0 ≤ x8_1) = true := decide_eq_true c5
     clear c5
     by_cases c6 : x8_1 < (l0_0.length : Int)
     ·rw [if_pos c6] at H
      have c6b0 : decide (x8_1 < (l0_0.length : Int)) = true := decide_eq_true c6
      clear c6
      replace H := Option.bind_eq_some_iff.mp H
      obtain ⟨t306, A70, H⟩ := H
      replace H : (if t306 = true then (impl_IsMemory.l0 k1 l0_0 (l0_0.length : Int) (wrap64 (x8_1 + 1)) l0_0) else (some false)) = some r := H
      have A7 := Aside0.mk A70
      clear A70
      by_cases c8 : t306 = true
      ·subst c8
       rw [if_pos rfl] at H
       have H' := Aside0.mk H
       clear H
       have p305 : 0 ≤ (x8_1 : Int) := of_decide_eq_true as_
       have q305 : x8_1 < (l0_0.length : Int) := of_decide_eq_true as_
       obtain ⟨ad305, A305_0, c305_0, e305, hx305_0, hl305_0, hi305_0⟩ := at_L1 HR0_0.out x8_1 p305 q305
       cases e305
       replace hx305_0 := (HB.out.cell (World.block_lt_of_cell? w _ hx305_0)).trans hx305_0
       have HR305_0 := Aside0.mk hi305_0
       have HC305_0 := Aside0.mk hl305_0
       clear hi305_0 hl305_0
       replace p305 := eq_true p305
       replace q305 := eq_true q305
       go_wp2_with (first | ((with_reducible refine gate_callee (f := 123) rfl ?_); refine goesL_ (some 14) rfl rfl Try.func123 (by kernel_rfl) rfl #[.int .i64 ((rd_L1 l0_0 x8_1).length : Int), .int .i64 1, .int .i64 64] rfl ar_ ?_; (with_reducible refine (impl_within.calls ((rd_L1 l0_0 x8_1).length : Int) 1 64 true _ A7.out).mono ?_); rintro e w' ⟨rfl, ⟨nd, rfl⟩⟩; refine ⟨_, rfl, ?_⟩))
       go_roundg k1
       case measure => have := HK1.out; omega
       case rel => exact ⟨(wrap64 (x8_1 + 1)), (by first | rfl | (simp; done) | (simp [*]; done)), H', ⟨by have := HK1.out; omega⟩, ⟨by (with_reducible repeat first | apply kb1_ | apply kb2_ | apply kb3_); exact BK304.out⟩, ⟨by repeat (first | (with_reducible first | exact HB.out | apply below_alloc | apply pw_below_drewN | apply below_drew1 | refine below_set ?_ GE304.out) | exact HB.out)⟩⟩
      ·replace c8 := Bool.eq_false_iff.mpr c8
       subst c8
       rw [if_neg (show ¬ (false = true) by decide)] at H
       obtain rfl := Option.some.inj H
       have p305 : 0 ≤ (x8_1 : Int) := of_decide_eq_true as_
       have q305 : x8_1 < (l0_0.length : Int) := of_decide_eq_true as_
       obtain ⟨ad305, A305_0, c305_0, e305, hx305_0, hl305_0, hi305_0⟩ := at_L1 HR0_0.out x8_1 p305 q305
       cases e305
       replace hx305_0 := (HB.out.cell (World.block_lt_of_cell? w _ hx305_0)).trans hx305_0
       have HR305_0 := Aside0.mk hi305_0
       have HC305_0 := Aside0.mk hl305_0
       clear hi305_0 hl305_0
       replace p305 := eq_true p305
       replace q305 := eq_true q305
       go_wp2_with (first | ((with_reducible refine gate_callee (f := 123) rfl ?_); refine goesL_ (some 14) rfl rfl Try.func123 (by kernel_rfl) rfl #[.int .i64 ((rd_L1 l0_0 x8_1).length : Int), .int .i64 1, .int .i64 64] rfl ar_ ?_; (with_reducible refine (impl_within.calls ((rd_L1 l0_0 x8_1).length : Int) 1 64 false _ A7.out).mono ?_); rintro e w' ⟨rfl, ⟨nd, rfl⟩⟩; refine ⟨_, rfl, ?_⟩))
       go_ret
       exact ⟨er_, by repeat (first | (with_reducible first | exact HB.out | apply below_alloc | apply pw_below_drewN | apply below_drew1 | refine below_set ?_ GE304.out) | exact HB.out)⟩
     ·rw [if_neg c6] at H
      exact absurd H (by simp)
    ·rw [if_neg c5] at H
     exact absurd H (by simp)
   ·rw [if_neg c4] at H
    have c4b0 : decide (x8_1 < (l0_0.length : Int)) = false := decide_eq_false c4
    clear c4
    obtain rfl := Option.some.inj H
    obtain ⟨hcz9_0, hfz9_0⟩ := zc1_ BK304
    go_wp2
    go_ret
    exact ⟨er_, by repeat (first | (with_reducible first | exact HB.out | apply below_alloc | apply pw_below_drewN | apply below_drew1 | refine below_set ?_ GE304.out) | exact HB.out)⟩
end Go.Proofs.Ytmkcbbbknbahgaa.P
namespace Go.Proofs.Ytmkcbbbknbahgaa.P
open Go.RowKit Go.Proofs.YtmkcbbbknbahgaaW.PrintWords Go.Proofs.YtmkcbbbknbahgaaW.PrintLast Go.Proofs.YtmkcbbbknbahgaaW.PrintMore
set_option linter.unusedVariables false
set_option linter.unusedSimpArgs false

theorem impl_within.eq (a b c : Int) : impl_within.f a b c = some (decide (b ≤ a) && decide (a ≤ c)) := by
  unfold impl_within.f
  by_cases h1 : b ≤ a <;> by_cases h2 : a ≤ c <;> simp [h1, h2] <;> omega

theorem wrap64_le (y : Int) (h : -9223372036854775808 ≤ y) : wrap64 y ≤ y := by unfold wrap64; omega

/-- Is a window on a memory (valid or not)? -/
def hasW (l : List (List Int)) (x : S32) : Bool := impl_Memory_hasWindow.f l x.f0 x.f1 x.f2 x.f3 == some true

theorem hasW_eq (l : List (List Int)) (x : S32) : impl_Memory_hasWindow.f l x.f0 x.f1 x.f2 x.f3 = some (hasW l x) := by
  have : ∃ b, impl_Memory_hasWindow.f l x.f0 x.f1 x.f2 x.f3 = some b := by
    unfold impl_Memory_hasWindow.f impl_Memory_hasArray.f
    simp only [impl_within.eq, Option.bind_some]
    by_cases h : (decide (0 ≤ x.f0) && decide (x.f0 ≤ wrap64 ((l.length : Int) - 1))) = true
    · rw [if_pos h]
      simp only [Bool.and_eq_true, decide_eq_true_eq] at h
      have := wrap64_le ((l.length : Int) - 1) (by omega)
      by_cases h2 : (decide (0 ≤ x.f3) && decide (x.f3 ≤ 64)) = true
      · rw [if_pos h2]
        by_cases h3 : (decide (0 ≤ x.f2) && decide (x.f2 ≤ x.f3)) = true
        · rw [if_pos h3, if_pos h.1, if_pos (by omega)]
          exact ⟨_, rfl⟩
        · rw [if_neg h3]
          exact ⟨_, rfl⟩
      · rw [if_neg h2]
        exact ⟨_, rfl⟩
    · rw [if_neg h]
      exact ⟨_, rfl⟩
  obtain ⟨b, hb⟩ := this
  unfold hasW
  rw [hb]
  cases b <;> rfl

set_option maxHeartbeats 4000000 in
set_option maxRecDepth 100000 in
theorem areOn1_calls (A0 : Option Addr) (c0 : Nat) (l0 : List (List Int)) (x : S32) (g : Nat) (w : World) (hr : Kd.C (Kd.slice 5 (Kd.int .u8)) w A0 l0.length l0) (hc : l0.length ≤ c0)
    (hb : w.heap[g]? = some (.cells #[.slice A0 l0.length c0] 31 (0, 0))) :
    Calls Try.prog 187 #[.agg #[.int .i64 x.f0, .int .i64 x.f1, .int .i64 x.f2, .int .i64 x.f3], .pointer (some ⟨g, 0, none⟩)] w fun e w' => e = .returned (.bool (!hasW l0 x)) ∧ Below w.heap.size w w' := by
  have hu1 := Try.underlying31
  have hu2 := Try.underlying32
  have hcell : w.cell? ⟨g, 0, none⟩ = some (.slice A0 l0.length c0) := (blk_cell hb 0).trans rfl
  have hg : g < w.heap.size := World.block_lt_of_cell? w _ hcell
  have HR := Aside0.mk hr
  have HC := Aside0.mk hc
  clear hr hc hb
  go_enter Try.func187, Try.ntmps187
  go_wp2_with (first | (go_at_call 188; refine (impl_Memory_hasWindow.calls A0 c0 l0 x.f0 x.f1 x.f2 x.f3 (hasW l0 x) _ (Kd.C_below HR.out ((Below.refl _ _).alloc (Nat.le_refl _) _)) HC.out (hasW_eq l0 x)).mono ?_; rintro e w' ⟨rfl, hb'⟩))
  go_ret
  exact ⟨rfl, ((Below.refl _ _).alloc (Nat.le_refl _) _).trans (hb'.mono (by simp))⟩

/-- The first element of which p holds, or -1. -/
def idxP {α : Type} (p : α → Bool) : List α → Int → Int
  | [], _ => -1
  | x :: l, i => if p x = true then i else idxP p l (i + 1)

theorem idxP_any {α : Type} (p : α → Bool) : ∀ (l : List α) (i : Int), 0 ≤ i → decide (0 ≤ idxP p l i) = l.any p
  | [], i, _ => by simp [idxP]
  | x :: l, i, h => by
    unfold idxP
    by_cases hx : p x = true
    · simp [hx, h]
    · rw [if_neg hx, idxP_any p l (i + 1) (by omega)]
      simp [hx]

set_option maxHeartbeats 4000000 in
set_option maxRecDepth 100000 in
/-- slices.IndexFunc at windows: whatever predicate that may lay blocks of its own. -/
theorem indexFunc_calls (p : S32 → Bool) (fn : Nat) (lb : Array Value) (A0 : Option Addr) (c0 : Nat) (l0 : List S32) (w : World) (hr : Kd.C k32 w A0 l0.length l0)
    (hp : ∀ (x : S32) (W : World), Below w.heap.size w W → Calls Try.prog fn (#[.agg #[.int .i64 x.f0, .int .i64 x.f1, .int .i64 x.f2, .int .i64 x.f3]] ++ lb) W fun e w' => e = .returned (.bool (p x)) ∧ Below W.heap.size W w')
    (eg : ∀ args w, (callFunc fn args).run Try.prog w = .ok (.enter fn args) w) :
    Calls Try.prog 203 #[.slice A0 l0.length c0, .func (.func fn) #[] lb] w fun e w' => e = .returned (.int .i64 (idxP p l0 0)) ∧ Below w.heap.size w w' := by
  have hu2 := Try.underlying32
  have HR := Aside0.mk hr
  have hbig := hr.2.1
  clear hr
  go_enter Try.func203, Try.ntmps203
  go_wp2
  go_loopg [5, 8] l0.length (fun gg _ s8 wr => ∃ i : Int, s8 = .int .i64 i ∧ Aside0 (0 ≤ i) ∧ Aside0 (i ≤ l0.length) ∧ Aside0 ((l0.length : Int) - i ≤ gg) ∧ Aside0 (idxP p l0 0 = idxP p (l0.drop i.toNat) i) ∧ Aside0 (Below w.heap.size w wr))
  case atStart => exact ⟨0, rfl, ⟨by omega⟩, ⟨by omega⟩, ⟨by omega⟩, ⟨rfl⟩, ⟨Below.refl _ w⟩⟩
  case round =>
    obtain ⟨i, rfl, H0, H1, HG, HI, HB⟩ := hrel
    by_cases hlt : i < (l0.length : Int)
    · have hd : decide (i < (l0.length : Int)) = true := decide_eq_true hlt
      obtain ⟨ad, e, hx0, hx1, hx2, hx3⟩ := at_T32 HR.out i H0.out hlt
      cases e
      replace hx0 := (HB.out.cell (World.block_lt_of_cell? w _ hx0)).trans hx0
      replace hx1 := (HB.out.cell (World.block_lt_of_cell? w _ hx1)).trans hx1
      replace hx2 := (HB.out.cell (World.block_lt_of_cell? w _ hx2)).trans hx2
      replace hx3 := (HB.out.cell (World.block_lt_of_cell? w _ hx3)).trans hx3
      have hcall := hp (rd_T32 l0 i) wr HB.out
      have hstep : idxP p (l0.drop i.toNat) i = if p (rd_T32 l0 i) = true then i else idxP p (l0.drop (i + 1).toNat) (i + 1) := by
        have h0 := H0.out
        have hl : i.toNat < l0.length := by omega
        rw [List.drop_eq_getElem_cons hl, show (i + 1).toNat = i.toNat + 1 by omega]
        show (if p l0[i.toNat] = true then _ else _) = _
        have : rd_T32 l0 i = l0[i.toNat] := by unfold rd_T32; rw [List.getD_eq_getElem?_getD, List.getElem?_eq_getElem hl]; rfl
        rw [this]
      have HS := Aside0.mk hstep
      have q0 : 0 ≤ i := H0.out
      have hw : wrap64 (i + 1) = i + 1 := by unfold wrap64; omega
      have HW := Aside0.mk hw
      have hlti : (i < (l0.length : Int)) = True := eq_true hlt
      have q0' : (0 ≤ i) = True := eq_true q0
      clear hp hstep hw
      cases hq : p (rd_T32 l0 i) with
      | true =>
        rw [hq] at hcall
        have HQ := Aside0.mk hq
        clear hq
        go_wp2_with fail
        refine hcall.mono ?_
        rintro e w' ⟨rfl, hb'⟩
        clear hcall hx0 hx1 hx2 hx3
        have HB' := Aside0.mk hb'
        clear hb'
        go_wp2
        go_ret
        exact ⟨by rw [HI.out, HS.out, if_pos HQ.out]; rfl, below_step HB.out HB'.out⟩
      | false =>
        rw [hq] at hcall
        have HQ := Aside0.mk hq
        clear hq
        go_wp2_with fail
        refine hcall.mono ?_
        rintro e w' ⟨rfl, hb'⟩
        clear hcall hx0 hx1 hx2 hx3
        have HB' := Aside0.mk hb'
        clear hb'
        go_wp2
        go_roundg (l0.length - (i + 1).toNat)
        case measure => have := HG.out; omega
        case rel => exact ⟨i + 1, by first | rfl | (rw [HW.out]; rfl), ⟨by omega⟩, ⟨by omega⟩, ⟨by omega⟩, ⟨by rw [HI.out, HS.out, if_neg (by rw [HQ.out]; decide)]⟩, ⟨below_step HB.out HB'.out⟩⟩
    · have hd : decide (i < (l0.length : Int)) = false := decide_eq_false hlt
      go_wp2
      go_ret
      have h0 := H0.out
      have h1 := H1.out
      have : l0.drop i.toNat = [] := List.drop_eq_nil_of_le (by omega)
      exact ⟨by rw [HI.out, this]; rfl, HB.out⟩

set_option maxHeartbeats 4000000 in
set_option maxRecDepth 100000 in
theorem containsFunc_calls (p : S32 → Bool) (fn : Nat) (lb : Array Value) (A0 : Option Addr) (c0 : Nat) (l0 : List S32) (w : World) (hr : Kd.C k32 w A0 l0.length l0)
    (hp : ∀ (x : S32) (W : World), Below w.heap.size w W → Calls Try.prog fn (#[.agg #[.int .i64 x.f0, .int .i64 x.f1, .int .i64 x.f2, .int .i64 x.f3]] ++ lb) W fun e w' => e = .returned (.bool (p x)) ∧ Below W.heap.size W w')
    (eg : ∀ args w, (callFunc fn args).run Try.prog w = .ok (.enter fn args) w) :
    Calls Try.prog 186 #[.slice A0 l0.length c0, .func (.func fn) #[] lb] w fun e w' => e = .returned (.bool (l0.any p)) ∧ Below w.heap.size w w' := by
  have HI := indexFunc_calls p fn lb A0 c0 l0 w hr hp eg
  have HA := Aside0.mk (idxP_any p l0 0 (by omega))
  clear hp hr eg
  go_enter Try.func186, Try.ntmps186
  go_wp2_with fail
  refine HI.mono ?_
  rintro e w' ⟨rfl, hb'⟩
  clear HI
  have HB' := Aside0.mk hb'
  clear hb'
  go_wp2
  go_ret
  exact ⟨by rw [← HA.out]; rfl, HB'.out⟩

/-- Is the memory valid, and are all windows on it? -/
def impl_areOn.f (k : Nat) (l0_0 : List (List Int)) (l1 : List S32) : Option Bool := (impl_IsMemory.f k l0_0).bind fun b => some (b && l1.all (hasW l0_0))

theorem all_of_any {α : Type} (q : α → Bool) : ∀ l : List α, l.all q = !(l.any fun x => !q x)
  | [] => rfl
  | x :: l => by simp [all_of_any q l]

set_option maxHeartbeats 4000000 in
set_option maxRecDepth 100000 in
theorem impl_areOn.calls (k : Nat) (A0_0 : Option Addr) (c0_0 : Nat) (l0_0 : List (List Int)) (A1 : Option Addr) (c1 : Nat) (l1 : List S32) (r : Bool) (w : World) (hr0_0 : Kd.C (Kd.slice 5 (Kd.int .u8)) w A0_0 l0_0.length l0_0) (hc0_0 : l0_0.length ≤ c0_0)
    (hr1 : Kd.C k32 w A1 l1.length l1) (hc1 : l1.length ≤ c1) (h : impl_areOn.f k l0_0 l1 = some r) :
    Calls Try.prog 146 #[.agg #[.slice A0_0 l0_0.length c0_0], .slice A1 l1.length c1] w fun e w' => e = .returned (.bool r) ∧ Below w.heap.size w w' := by
  have hu1 := Try.underlying31
  unfold impl_areOn.f at h
  obtain ⟨b, hb, hr⟩ := Option.bind_eq_some_iff.mp h
  have hr := Option.some.inj hr
  clear h
  have HM := Aside0.mk hb
  have HR0 := Aside0.mk hr0_0
  have HC0 := Aside0.mk hc0_0
  have HR1 := Aside0.mk hr1
  have HB := Aside0.mk (Below.refl w.heap.size w)
  clear hb hr0_0 hc0_0 hr1
  cases b with
  | false =>
    have hr' : r = false := by rw [← hr]; rfl
    subst hr'
    clear hr
    go_enter Try.func146, Try.ntmps146
    go_wp2_with (first | ((with_reducible refine gate_dst (N := 2) rfl ?_); refine box_event ?hg (N := 2) ?hd (cs := #[.slice A0_0 l0_0.length c0_0]) (t := 31) ?hr ?_; (case hd => rfl); (case hg => rfl); (case hr => first | (go_simp; done) | (go_simp; rfl)); intro gb hg w3 hbox hb; have HB3 := Aside0.mk hb; have BK := Aside0.mk hbox; have hcz : w3.cell? ⟨gb, 0, none⟩ = some (.slice A0_0 l0_0.length c0_0) := (blk_cell hbox 0).trans rfl; clear hb hbox hg) | (go_at_call 162; refine (impl_IsMemory.calls k _ _ l0_0 false _ (Kd.C_below HR0.out HB3.out) HC0.out HM.out).mono ?_; rintro e w4 ⟨rfl, hb4⟩; have HB4 := Aside0.mk hb4; clear hb4))
    go_ret
    exact ⟨rfl, below_step HB3.out HB4.out⟩
  | true =>
    have hr' : r = !(l1.any fun x => !hasW l0_0 x) := by rw [← hr, all_of_any]; simp
    subst hr'
    clear hr
    go_enter Try.func146, Try.ntmps146
    go_wp2_with (first | ((with_reducible refine gate_dst (N := 2) rfl ?_); refine box_event ?hg (N := 2) ?hd (cs := #[.slice A0_0 l0_0.length c0_0]) (t := 31) ?hr ?_; (case hd => rfl); (case hg => rfl); (case hr => first | (go_simp; done) | (go_simp; rfl)); intro gb hg w3 hbox hb; have HB3 := Aside0.mk hb; have BK := Aside0.mk hbox; have hcz : w3.cell? ⟨gb, 0, none⟩ = some (.slice A0_0 l0_0.length c0_0) := (blk_cell hbox 0).trans rfl; clear hb hbox hg) | (go_at_call 162; refine (impl_IsMemory.calls k _ _ l0_0 true _ (Kd.C_below HR0.out HB3.out) HC0.out HM.out).mono ?_; rintro e w4 ⟨rfl, hb4⟩; have HB4 := Aside0.mk hb4; clear hb4) | fail)
    have HB5 := below_step HB3.out HB4.out
    have BK4 := blk_below BK.out HB4.out
    refine (containsFunc_calls (fun x => !hasW l0_0 x) 187 #[.pointer (some ⟨gb, 0, none⟩)] A1 c1 l1 w4 (Kd.C_below HR1.out HB5) (fun x W hW => areOn1_calls A0_0 c0_0 l0_0 x gb W (Kd.C_below HR0.out (below_step HB5 hW)) HC0.out (blk_below BK4 hW)) (Go.Proofs.enters_of Try.func187 (by kernel_rfl) rfl)).mono ?_
    rintro e w5 ⟨rfl, hb5⟩
    have HB6 := Aside0.mk (below_step HB5 hb5)
    clear hb5 HB5 BK4 hcz
    go_wp2
    go_ret
    exact ⟨rfl, HB6.out⟩
end Go.Proofs.Ytmkcbbbknbahgaa.P
namespace Go.Proofs.Ytmkcbbbknbahgaa.P
open Go.RowKit Go.Proofs.YtmkcbbbknbahgaaW.PrintWords Go.Proofs.YtmkcbbbknbahgaaW.PrintLast Go.Proofs.YtmkcbbbknbahgaaW.PrintMore
attribute [local go_sem] max2_int min2_int max_two min_two max_three min_three max_four min_four   -- for this text's walks alone
set_option linter.unusedVariables false
set_option linter.unusedSimpArgs false

def impl_allWithin.l0 : Nat → Int → Int → List Int → Int → Int → Option (Bool)
 | 0, _, _, _, _, _ => none
 | k + 1, x1, x2, x9, x10, x11 => if x11 < x10 then (if 0 ≤ x11 then (if x11 < (x9.length : Int) then ((impl_within.f (rd x9 x11) x1 x2).bind fun t764 => (if t764 = true then (impl_allWithin.l0 k x1 x2 x9 x10 (wrap64 (x11 + 1))) else (some false))) else (none)) else (none)) else (some true)

def impl_allWithin.f (k : Nat) (l0 : List Int) (a1 : Int) (a2 : Int) : Option (Bool) := impl_allWithin.l0 k a1 a2 l0 (l0.length : Int) 0

set_option maxHeartbeats 8000000 in
set_option maxRecDepth 100000 in
theorem impl_allWithin.calls (k : Nat) (A0 : Option Addr) (c0 : Nat) (l0 : List Int) (a1 : Int) (a2 : Int) (r : Bool) (w : World) (hr0 : Kd.C (Kd.int .i64) w A0 l0.length l0) (hc0 : l0.length ≤ c0) (h : impl_allWithin.f k l0 a1 a2 = some r) :
  Calls Try.prog 190 #[.slice A0 l0.length c0, .int .i64 a1, .int .i64 a2] w fun e w' => e = .returned (.bool r) ∧ Drawn0 w w' := by
 have HR0 := Aside0.mk hr0
 have HC0 := Aside0.mk hc0
 clear hr0 hc0
 have H : (impl_allWithin.l0 k a1 a2 l0 (l0.length : Int) 0) = some r := h
 clear h
 have H' := Aside0.mk H
 clear H
 go_enter Try.func190, Try.ntmps190
 go_wp2
 go_loopg [11] k (fun kq v11 w' => ∃ (x11_1 : Int), v11 = .int .i64 x11_1 ∧ Aside0 (impl_allWithin.l0 kq a1 a2 l0 (l0.length : Int) x11_1 = some r) ∧ Aside0 (kq ≤ k) ∧ Drawn0 w w')
 case atStart => exact ⟨(0), (by first | rfl | (simp; done) | (simp [*]; done)), H', ⟨Nat.le_refl _⟩, by repeat (first | exact Drawn0.refl _ | apply Drawn0.step)⟩
 case round =>
  clear H'
  try clear c1
  try clear p2
  obtain ⟨x11_1, rfl, HA, HK1, ⟨m1, rfl⟩⟩ := hrel
  cases gk with
  | zero => exact absurd HA.out (by simp [impl_allWithin.l0])
  | succ k1 =>
   have H := HA.out
   clear HA
   simp only [impl_allWithin.l0] at H
   by_cases c4 : x11_1 < (l0.length : Int)
   ·rw [if_pos c4] at H
    have c4b0 : decide (x11_1 < (l0.length : Int)) = true := decide_eq_true c4
    clear c4
    by_cases c5 : 0 ≤ x11_1
    ·rw [if_pos c5] at H
     have c5b0 : decide (0 ≤ x11_1) = true := decide_eq_true c5
     clear c5
     by_cases c6 : x11_1 < (l0.length : Int)
     ·rw [if_pos c6] at H
      have c6b0 : decide (x11_1 < (l0.length : Int)) = true := decide_eq_true c6
      clear c6
      replace H := Option.bind_eq_some_iff.mp H
      obtain ⟨t764, A70, H⟩ := H
      replace H : (if t764 = true then (impl_allWithin.l0 k1 a1 a2 l0 (l0.length : Int) (wrap64 (x11_1 + 1))) else (some false)) = some r := H
      have A7 := Aside0.mk A70
      clear A70
      by_cases c8 : t764 = true
      ·subst c8
       rw [if_pos rfl] at H
       have H' := Aside0.mk H
       clear H
       have p763 : 0 ≤ (x11_1 : Int) := of_decide_eq_true as_
       have q763 : x11_1 < (l0.length : Int) := of_decide_eq_true as_
       obtain ⟨ad763, e763, hx763_0⟩ := Kd.at_int HR0.out x11_1 p763 q763
       cases e763
       replace p763 := eq_true p763
       replace q763 := eq_true q763
       go_wp2_with (first | ((with_reducible refine gate_callee (f := 123) rfl ?_); refine goesL_ (some 18) rfl rfl Try.func123 (by kernel_rfl) rfl #[.int .i64 (rd l0 x11_1), .int .i64 a1, .int .i64 a2] rfl ar_ ?_; (with_reducible refine (impl_within.calls (rd l0 x11_1) a1 a2 true _ A7.out).mono ?_); rintro e w' ⟨rfl, ⟨nd, rfl⟩⟩; refine ⟨_, rfl, ?_⟩))
       go_roundg k1
       case measure => have := HK1.out; omega
       case rel => exact ⟨(wrap64 (x11_1 + 1)), (by first | rfl | (simp; done) | (simp [*]; done)), H', ⟨by have := HK1.out; omega⟩, by repeat (first | exact Drawn0.refl _ | apply Drawn0.step)⟩
      ·replace c8 := Bool.eq_false_iff.mpr c8
       subst c8
       rw [if_neg (show ¬ (false = true) by decide)] at H
       obtain rfl := Option.some.inj H
       have p763 : 0 ≤ (x11_1 : Int) := of_decide_eq_true as_
       have q763 : x11_1 < (l0.length : Int) := of_decide_eq_true as_
       obtain ⟨ad763, e763, hx763_0⟩ := Kd.at_int HR0.out x11_1 p763 q763
       cases e763
       replace p763 := eq_true p763
       replace q763 := eq_true q763
       go_wp2_with (first | ((with_reducible refine gate_callee (f := 123) rfl ?_); refine goesL_ (some 18) rfl rfl Try.func123 (by kernel_rfl) rfl #[.int .i64 (rd l0 x11_1), .int .i64 a1, .int .i64 a2] rfl ar_ ?_; (with_reducible refine (impl_within.calls (rd l0 x11_1) a1 a2 false _ A7.out).mono ?_); rintro e w' ⟨rfl, ⟨nd, rfl⟩⟩; refine ⟨_, rfl, ?_⟩))
       go_ret
       exact ⟨by first | rfl | (simp; done) | (simp [*]; done), by repeat (first | exact Drawn0.refl _ | apply Drawn0.step)⟩
     ·rw [if_neg c6] at H
      exact absurd H (by simp)
    ·rw [if_neg c5] at H
     exact absurd H (by simp)
   ·rw [if_neg c4] at H
    have c4b0 : decide (x11_1 < (l0.length : Int)) = false := decide_eq_false c4
    clear c4
    obtain rfl := Option.some.inj H
    go_wp2
    go_ret
    exact ⟨by first | rfl | (simp; done) | (simp [*]; done), by repeat (first | exact Drawn0.refl _ | apply Drawn0.step)⟩
end Go.Proofs.Ytmkcbbbknbahgaa.P
namespace Go.Proofs.Ytmkcbbbknbahgaa.P
open Go.RowKit Go.Proofs.YtmkcbbbknbahgaaW.PrintWords Go.Proofs.YtmkcbbbknbahgaaW.PrintLast Go.Proofs.YtmkcbbbknbahgaaW.PrintMore
attribute [local go_sem] max2_int min2_int max_two min_two max_three min_three max_four min_four   -- for this text's walks alone
set_option linter.unusedVariables false
set_option linter.unusedSimpArgs false

def cmp_isNaN_int.f (a0 : Int) : Option (Bool) := some (a0 != a0)

set_option maxHeartbeats 8000000 in
set_option maxRecDepth 100000 in
theorem cmp_isNaN_int.calls (a0 : Int) (r : Bool) (w : World) (h : cmp_isNaN_int.f a0 = some r) :
  Calls Try.prog 211 #[.int .i64 a0] w fun e w' => e = .returned (.bool r) ∧ Drawn0 w w' := by
 have H : (some (a0 != a0)) = some r := h
 clear h
 obtain rfl := Option.some.inj H
 go_enter Try.func211, Try.ntmps211
 go_wp2
 go_ret
 exact ⟨by first | rfl | (simp; done) | (simp [*]; done), by repeat (first | exact Drawn0.refl _ | apply Drawn0.step)⟩
end Go.Proofs.Ytmkcbbbknbahgaa.P
namespace Go.Proofs.Ytmkcbbbknbahgaa.P
open Go.RowKit Go.Proofs.YtmkcbbbknbahgaaW.PrintWords Go.Proofs.YtmkcbbbknbahgaaW.PrintLast Go.Proofs.YtmkcbbbknbahgaaW.PrintMore
attribute [local go_sem] max2_int min2_int max_two min_two max_three min_three max_four min_four   -- for this text's walks alone
set_option linter.unusedVariables false
set_option linter.unusedSimpArgs false

def cmp_Less_int.f (a0 : Int) (a1 : Int) : Option (Bool) := (cmp_isNaN_int.f a0).bind fun t765 => (if t765 = true then ((cmp_isNaN_int.f a1).bind fun t766 => (if t766 = true then (some (decide (a0 < a1))) else (some true))) else (some (decide (a0 < a1))))

set_option maxHeartbeats 8000000 in
set_option maxRecDepth 100000 in
theorem cmp_Less_int.calls (a0 : Int) (a1 : Int) (r : Bool) (w : World) (h : cmp_Less_int.f a0 a1 = some r) :
  Calls Try.prog 205 #[.int .i64 a0, .int .i64 a1] w fun e w' => e = .returned (.bool r) ∧ Drawn0 w w' := by
 have H : ((cmp_isNaN_int.f a0).bind fun t765 => (if t765 = true then ((cmp_isNaN_int.f a1).bind fun t766 => (if t766 = true then (some (decide (a0 < a1))) else (some true))) else (some (decide (a0 < a1))))) = some r := h
 clear h
 replace H := Option.bind_eq_some_iff.mp H
 obtain ⟨t765, A30, H⟩ := H
 replace H : (if t765 = true then ((cmp_isNaN_int.f a1).bind fun t766 => (if t766 = true then (some (decide (a0 < a1))) else (some true))) else (some (decide (a0 < a1)))) = some r := H
 have A3 := Aside0.mk A30
 clear A30
 by_cases c4 : t765 = true
 ·subst c4
  rw [if_pos rfl] at H
  replace H := Option.bind_eq_some_iff.mp H
  obtain ⟨t766, A50, H⟩ := H
  replace H : (if t766 = true then (some (decide (a0 < a1))) else (some true)) = some r := H
  have A5 := Aside0.mk A50
  clear A50
  by_cases c6 : t766 = true
  ·subst c6
   rw [if_pos rfl] at H
   obtain rfl := Option.some.inj H
   go_enter Try.func205, Try.ntmps205
   go_wp2_with (first | ((with_reducible refine gate_callee (f := 211) rfl ?_); refine goesL_ (some 6) rfl rfl Try.func211 (by kernel_rfl) rfl #[.int .i64 a0] rfl ar_ ?_; (with_reducible refine (cmp_isNaN_int.calls a0 true _ A3.out).mono ?_); rintro e w' ⟨rfl, ⟨nd, rfl⟩⟩; refine ⟨_, rfl, ?_⟩) | (go_at_call 211; (with_reducible refine (cmp_isNaN_int.calls a1 true _ A5.out).mono ?_); rintro e w' ⟨rfl, ⟨nd, rfl⟩⟩))
   go_ret
   exact ⟨by first | rfl | (simp; done) | (simp [*]; done), by repeat (first | exact Drawn0.refl _ | apply Drawn0.step)⟩
  ·replace c6 := Bool.eq_false_iff.mpr c6
   subst c6
   rw [if_neg (show ¬ (false = true) by decide)] at H
   obtain rfl := Option.some.inj H
   go_enter Try.func205, Try.ntmps205
   go_wp2_with (first | ((with_reducible refine gate_callee (f := 211) rfl ?_); refine goesL_ (some 6) rfl rfl Try.func211 (by kernel_rfl) rfl #[.int .i64 a0] rfl ar_ ?_; (with_reducible refine (cmp_isNaN_int.calls a0 true _ A3.out).mono ?_); rintro e w' ⟨rfl, ⟨nd, rfl⟩⟩; refine ⟨_, rfl, ?_⟩) | (go_at_call 211; (with_reducible refine (cmp_isNaN_int.calls a1 false _ A5.out).mono ?_); rintro e w' ⟨rfl, ⟨nd, rfl⟩⟩))
   go_ret
   exact ⟨by first | rfl | (simp; done) | (simp [*]; done), by repeat (first | exact Drawn0.refl _ | apply Drawn0.step)⟩
 ·replace c4 := Bool.eq_false_iff.mpr c4
  subst c4
  rw [if_neg (show ¬ (false = true) by decide)] at H
  obtain rfl := Option.some.inj H
  go_enter Try.func205, Try.ntmps205
  go_wp2_with (first | ((with_reducible refine gate_callee (f := 211) rfl ?_); refine goesL_ (some 6) rfl rfl Try.func211 (by kernel_rfl) rfl #[.int .i64 a0] rfl ar_ ?_; (with_reducible refine (cmp_isNaN_int.calls a0 false _ A3.out).mono ?_); rintro e w' ⟨rfl, ⟨nd, rfl⟩⟩; refine ⟨_, rfl, ?_⟩))
  go_ret
  exact ⟨by first | rfl | (simp; done) | (simp [*]; done), by repeat (first | exact Drawn0.refl _ | apply Drawn0.step)⟩
end Go.Proofs.Ytmkcbbbknbahgaa.P
namespace Go.Proofs.Ytmkcbbbknbahgaa.P
open Go.RowKit Go.Proofs.YtmkcbbbknbahgaaW.PrintWords Go.Proofs.YtmkcbbbknbahgaaW.PrintLast Go.Proofs.YtmkcbbbknbahgaaW.PrintMore
attribute [local go_sem] max2_int min2_int max_two min_two max_three min_three max_four min_four   -- for this text's walks alone
set_option linter.unusedVariables false
set_option linter.unusedSimpArgs false

def slices_IsSorted_int_int.l0 : Nat → List Int → Int → Option (Bool)
 | 0, _, _ => none
 | k + 1, x0, x3 => if x3 > 0 then (if 0 ≤ x3 then (if x3 < (x0.length : Int) then (if 0 ≤ (wrap64 (x3 - 1)) then (if (wrap64 (x3 - 1)) < (x0.length : Int) then ((cmp_Less_int.f (rd x0 x3) (rd x0 (wrap64 (x3 - 1)))).bind fun t769 => (if t769 = true then (some false) else (slices_IsSorted_int_int.l0 k x0 (wrap64 (x3 - 1))))) else (none)) else (none)) else (none)) else (none)) else (some true)

def slices_IsSorted_int_int.f (k : Nat) (l0 : List Int) : Option (Bool) := slices_IsSorted_int_int.l0 k l0 (wrap64 ((l0.length : Int) - 1))

set_option maxHeartbeats 8000000 in
set_option maxRecDepth 100000 in
theorem slices_IsSorted_int_int.calls (k : Nat) (A0 : Option Addr) (c0 : Nat) (l0 : List Int) (r : Bool) (w : World) (hr0 : Kd.C (Kd.int .i64) w A0 l0.length l0) (hc0 : l0.length ≤ c0) (h : slices_IsSorted_int_int.f k l0 = some r) :
  Calls Try.prog 191 #[.slice A0 l0.length c0] w fun e w' => e = .returned (.bool r) ∧ Drawn0 w w' := by
 have HR0 := Aside0.mk hr0
 have HC0 := Aside0.mk hc0
 clear hr0 hc0
 have H : (slices_IsSorted_int_int.l0 k l0 (wrap64 ((l0.length : Int) - 1))) = some r := h
 clear h
 have H' := Aside0.mk H
 clear H
 go_enter Try.func191, Try.ntmps191
 go_wp2
 repeat (go_quiet (fail); try go_wp2)
 go_loopg [3] k (fun kq v3 w' => ∃ (x3_1 : Int), v3 = .int .i64 x3_1 ∧ Aside0 (slices_IsSorted_int_int.l0 kq l0 x3_1 = some r) ∧ Aside0 (kq ≤ k) ∧ Drawn0 w w')
 case atStart => exact ⟨(wrap64 ((l0.length : Int) - 1)), (by first | rfl | (simp; done) | (simp [*]; done)), H', ⟨Nat.le_refl _⟩, by repeat (first | exact Drawn0.refl _ | apply Drawn0.step)⟩
 case round =>
  clear H'
  try clear c1
  obtain ⟨x3_1, rfl, HA, HK1, ⟨m1, rfl⟩⟩ := hrel
  cases gk with
  | zero => exact absurd HA.out (by simp [slices_IsSorted_int_int.l0])
  | succ k1 =>
   have H := HA.out
   clear HA
   simp only [slices_IsSorted_int_int.l0] at H
   by_cases c2 : x3_1 > 0
   ·rw [if_pos c2] at H
    have c2b0 : decide (0 < x3_1) = true := decide_eq_true c2
    clear c2
    by_cases c3 : 0 ≤ x3_1
    ·rw [if_pos c3] at H
     have c3b0 : decide (0 ≤ x3_1) = true := decide_eq_true c3
     clear c3
     by_cases c4 : x3_1 < (l0.length : Int)
     ·rw [if_pos c4] at H
      have c4b0 : decide (x3_1 < (l0.length : Int)) = true := decide_eq_true c4
      clear c4
      obtain ⟨ji5, hji5⟩ : ∃ j_ : Int, (wrap64 (x3_1 - 1)) = j_ := ⟨_, rfl⟩
      replace H : (if 0 ≤ (ji5) then (if (ji5) < (l0.length : Int) then ((cmp_Less_int.f (rd l0 x3_1) (rd l0 (ji5))).bind fun t769 => (if t769 = true then (some false) else (slices_IsSorted_int_int.l0 k1 l0 ji5))) else (none)) else (none)) = some r := by first | (rw [hji5] at H; exact H) | (simp only [hji5] at H ⊢; exact H)
      have hji5w : (IntKind.i64.wrap (x3_1 - 1)) = ji5 := (i64_w _).trans hji5
      by_cases c6 : 0 ≤ (ji5)
      ·rw [if_pos c6] at H
       have c6b0 : decide (0 ≤ (ji5)) = true := decide_eq_true c6
       clear c6
       by_cases c7 : (ji5) < (l0.length : Int)
       ·rw [if_pos c7] at H
        have c7b0 : decide ((ji5) < (l0.length : Int)) = true := decide_eq_true c7
        clear c7
        replace H := Option.bind_eq_some_iff.mp H
        obtain ⟨t769, A80, H⟩ := H
        replace H : (if t769 = true then (some false) else (slices_IsSorted_int_int.l0 k1 l0 ji5)) = some r := H
        have A8 := Aside0.mk A80
        clear A80
        by_cases c9 : t769 = true
        ·subst c9
         rw [if_pos rfl] at H
         obtain rfl := Option.some.inj H
         have p767 : 0 ≤ (x3_1 : Int) := of_decide_eq_true as_
         have q767 : x3_1 < (l0.length : Int) := of_decide_eq_true as_
         obtain ⟨ad767, e767, hx767_0⟩ := Kd.at_int HR0.out x3_1 p767 q767
         cases e767
         replace p767 := eq_true p767
         replace q767 := eq_true q767
         have p768 : 0 ≤ ((ji5) : Int) := of_decide_eq_true as_
         have q768 : (ji5) < (l0.length : Int) := of_decide_eq_true as_
         obtain ⟨ad768, e768, hx768_0⟩ := Kd.at_int HR0.out (ji5) p768 q768
         obtain rfl : ad767 = ad768 := (by injection e768)
         replace p768 := eq_true p768
         replace q768 := eq_true q768
         go_wp2_with (first | (go_at_call 205; (with_reducible refine (cmp_Less_int.calls (rd l0 x3_1) (rd l0 (ji5)) true _ A8.out).mono ?_); rintro e w' ⟨rfl, ⟨nd, rfl⟩⟩; (try first | exact ⟨rfl, _, World.drewN_drewN _ _ _⟩ | exact ⟨rfl, _, Eq.trans (World.drewN_drewN _ _ _) (congrArg (World.drewN _) (Nat.add_assoc _ _ _))⟩)))
         repeat (go_quiet (first | (go_at_call 205; (with_reducible refine (cmp_Less_int.calls (rd l0 x3_1) (rd l0 (ji5)) true _ A8.out).mono ?_); rintro e w' ⟨rfl, ⟨nd, rfl⟩⟩; (try first | exact ⟨rfl, _, World.drewN_drewN _ _ _⟩ | exact ⟨rfl, _, Eq.trans (World.drewN_drewN _ _ _) (congrArg (World.drewN _) (Nat.add_assoc _ _ _))⟩))); try go_wp2_with (first | (go_at_call 205; (with_reducible refine (cmp_Less_int.calls (rd l0 x3_1) (rd l0 (ji5)) true _ A8.out).mono ?_); rintro e w' ⟨rfl, ⟨nd, rfl⟩⟩; (try first | exact ⟨rfl, _, World.drewN_drewN _ _ _⟩ | exact ⟨rfl, _, Eq.trans (World.drewN_drewN _ _ _) (congrArg (World.drewN _) (Nat.add_assoc _ _ _))⟩))))
         go_ret
         exact ⟨by first | rfl | (simp; done) | (simp only [← hji5] <;> (first | rfl | simp)) | (simp [*]; done), by repeat (first | exact Drawn0.refl _ | apply Drawn0.step)⟩
        ·replace c9 := Bool.eq_false_iff.mpr c9
         subst c9
         rw [if_neg (show ¬ (false = true) by decide)] at H
         have H' := Aside0.mk H
         clear H
         have p767 : 0 ≤ (x3_1 : Int) := of_decide_eq_true as_
         have q767 : x3_1 < (l0.length : Int) := of_decide_eq_true as_
         obtain ⟨ad767, e767, hx767_0⟩ := Kd.at_int HR0.out x3_1 p767 q767
         cases e767
         replace p767 := eq_true p767
         replace q767 := eq_true q767
         have p768 : 0 ≤ ((ji5) : Int) := of_decide_eq_true as_
         have q768 : (ji5) < (l0.length : Int) := of_decide_eq_true as_
         obtain ⟨ad768, e768, hx768_0⟩ := Kd.at_int HR0.out (ji5) p768 q768
         obtain rfl : ad767 = ad768 := (by injection e768)
         replace p768 := eq_true p768
         replace q768 := eq_true q768
         go_wp2_with (first | (go_at_call 205; (with_reducible refine (cmp_Less_int.calls (rd l0 x3_1) (rd l0 (ji5)) false _ A8.out).mono ?_); rintro e w' ⟨rfl, ⟨nd, rfl⟩⟩; (try first | exact ⟨rfl, _, World.drewN_drewN _ _ _⟩ | exact ⟨rfl, _, Eq.trans (World.drewN_drewN _ _ _) (congrArg (World.drewN _) (Nat.add_assoc _ _ _))⟩)))
         repeat (go_quiet (first | (go_at_call 205; (with_reducible refine (cmp_Less_int.calls (rd l0 x3_1) (rd l0 (ji5)) false _ A8.out).mono ?_); rintro e w' ⟨rfl, ⟨nd, rfl⟩⟩; (try first | exact ⟨rfl, _, World.drewN_drewN _ _ _⟩ | exact ⟨rfl, _, Eq.trans (World.drewN_drewN _ _ _) (congrArg (World.drewN _) (Nat.add_assoc _ _ _))⟩))); try go_wp2_with (first | (go_at_call 205; (with_reducible refine (cmp_Less_int.calls (rd l0 x3_1) (rd l0 (ji5)) false _ A8.out).mono ?_); rintro e w' ⟨rfl, ⟨nd, rfl⟩⟩; (try first | exact ⟨rfl, _, World.drewN_drewN _ _ _⟩ | exact ⟨rfl, _, Eq.trans (World.drewN_drewN _ _ _) (congrArg (World.drewN _) (Nat.add_assoc _ _ _))⟩))))
         go_roundg k1
         case measure => have := HK1.out; omega
         case rel => exact ⟨(ji5), (by first | rfl | (simp; done) | (simp only [← hji5] <;> (first | rfl | simp)) | (simp [*]; done)), H', ⟨by have := HK1.out; omega⟩, by repeat (first | exact Drawn0.refl _ | apply Drawn0.step)⟩
       ·rw [if_neg c7] at H
        exact absurd H (by simp)
      ·rw [if_neg c6] at H
       exact absurd H (by simp)
     ·rw [if_neg c4] at H
      exact absurd H (by simp)
    ·rw [if_neg c3] at H
     exact absurd H (by simp)
   ·rw [if_neg c2] at H
    have c2b0 : decide (0 < x3_1) = false := decide_eq_false c2
    clear c2
    obtain rfl := Option.some.inj H
    go_wp2
    repeat (go_quiet (fail); try go_wp2)
    go_ret
    exact ⟨by first | rfl | (simp; done) | (simp [*]; done), by repeat (first | exact Drawn0.refl _ | apply Drawn0.step)⟩
end Go.Proofs.Ytmkcbbbknbahgaa.P
namespace Go.Proofs.Ytmkcbbbknbahgaa.P
open Go.RowKit Go.Proofs.YtmkcbbbknbahgaaW.PrintWords Go.Proofs.YtmkcbbbknbahgaaW.PrintLast Go.Proofs.YtmkcbbbknbahgaaW.PrintMore
attribute [local go_sem] max2_int min2_int max_two min_two max_three min_three max_four min_four   -- for this text's walks alone
set_option linter.unusedVariables false
set_option linter.unusedSimpArgs false

def impl_IsArena.j0 : Nat → Bool → List (List Int) → Int → Int → Int → Int → Int → List Int → Option (Bool)
 | 0, _, _, _, _, _, _, _, _ => none
 | k + 1, x24, x771000, x771001, x771002, x771003, x771004, x771005, x771006 => if x24 = true then (some false) else ((impl_allWithin.f k x771006 0 x771005).bind fun t776 => (if t776 = true then ((slices_IsSorted_int_int.f k x771006).bind fun t777 => (some t777)) else (some false)))

def impl_IsArena.f (k : Nat) (l0_0 : List (List Int)) (a0_1 : Int) (a0_2 : Int) (a0_3 : Int) (a0_4 : Int) (a0_5 : Int) (l0_6 : List Int) : Option (Bool) := (impl_areOn.f k l0_0 (([(⟨a0_1, a0_2, a0_3, a0_4⟩ : S32)] : List (S32)))).bind fun t774 => (if t774 = true then ((impl_within.f a0_5 0 a0_3).bind fun t775 => (if t775 = true then (impl_IsArena.j0 k (decide ((l0_6.length : Int) > 8)) l0_0 a0_1 a0_2 a0_3 a0_4 a0_5 l0_6) else (impl_IsArena.j0 k true l0_0 a0_1 a0_2 a0_3 a0_4 a0_5 l0_6))) else (impl_IsArena.j0 k true l0_0 a0_1 a0_2 a0_3 a0_4 a0_5 l0_6))

set_option maxHeartbeats 8000000 in
set_option maxRecDepth 100000 in
theorem impl_IsArena.calls (k : Nat) (A0_0 : Option Addr) (c0_0 : Nat) (l0_0 : List (List Int)) (a0_1 : Int) (a0_2 : Int) (a0_3 : Int) (a0_4 : Int) (a0_5 : Int) (A0_6 : Option Addr) (c0_6 : Nat) (l0_6 : List Int) (r : Bool) (w : World) (hr0_0 : Kd.C (Kd.slice 5 (Kd.int .u8)) w A0_0 l0_0.length l0_0) (hc0_0 : l0_0.length ≤ c0_0) (hr0_6 : Kd.C (Kd.int .i64) w A0_6 l0_6.length l0_6) (hc0_6 : l0_6.length ≤ c0_6) (h : impl_IsArena.f k l0_0 a0_1 a0_2 a0_3 a0_4 a0_5 l0_6 = some r) :
  Calls Try.prog 152 #[.agg #[.slice A0_0 l0_0.length c0_0, .int .i64 a0_1, .int .i64 a0_2, .int .i64 a0_3, .int .i64 a0_4, .int .i64 a0_5, .slice A0_6 l0_6.length c0_6]] w fun e w' => e = .returned (.bool r) ∧ Below w.heap.size w w' := by
 have hu70 := Try.underlying70
 have hu31 := Try.underlying31
 have hu32 := Try.underlying32
 have HR0_0 := Aside0.mk hr0_0
 have HC0_0 := Aside0.mk hc0_0
 clear hr0_0 hc0_0
 have HR0_6 := Aside0.mk hr0_6
 have HC0_6 := Aside0.mk hc0_6
 clear hr0_6 hc0_6
 have HB := Aside0.mk (Below.refl w.heap.size w)
 have H : ((impl_areOn.f k l0_0 (([(⟨a0_1, a0_2, a0_3, a0_4⟩ : S32)] : List (S32)))).bind fun t774 => (if t774 = true then ((impl_within.f a0_5 0 a0_3).bind fun t775 => (if t775 = true then (impl_IsArena.j0 k (decide ((l0_6.length : Int) > 8)) l0_0 a0_1 a0_2 a0_3 a0_4 a0_5 l0_6) else (impl_IsArena.j0 k true l0_0 a0_1 a0_2 a0_3 a0_4 a0_5 l0_6))) else (impl_IsArena.j0 k true l0_0 a0_1 a0_2 a0_3 a0_4 a0_5 l0_6))) = some r := h
 clear h
 have HC2 := Aside0.mk H
 clear H
 go_enter Try.func152, Try.ntmps152
 go_upto_region 1 with (first | ((with_reducible refine gate_dst (N := 1) rfl ?_); (try (refine gate_guard (by rfl) ?_; dsimp only)); refine box_event ?hg (N := 1) ?hd (cs := #[.slice A0_0 l0_0.length c0_0, .int .i64 a0_1, .int .i64 a0_2, .int .i64 a0_3, .int .i64 a0_4, .int .i64 a0_5, .slice A0_6 l0_6.length c0_6]) (t := 70) ?hr ?_; (case hd => rfl); (case hg => rfl); (case hr => exact gs_); intro gb770 hg w3 hbox hb; have BK770 := Aside0.mk (hbox); have GW770 := gE_ HB hg; have GE770 := gE_ HB hg; replace HB := Aside0.mk (below_step (by repeat (first | (with_reducible first | exact HB.out | apply ba_ | apply bn_ | apply bd_) | exact HB.out)) hb); clear hb hbox hg))
 (try simp only [Act.put, List.setIfInBounds_toArray, List.set_cons_zero, List.set_cons_succ])
 go_cut [24] (fun v24 wc => ∃ (kq : Nat) (x24_1 : Bool), v24 = .bool x24_1 ∧ Aside0 (impl_IsArena.j0 kq x24_1 l0_0 a0_1 a0_2 a0_3 a0_4 a0_5 l0_6 = some r) ∧ Aside0 (kq ≤ k) ∧ Aside0 (wc.heap[gb770]? = some (.cells #[(.slice A0_0 l0_0.length c0_0), .int .i64 a0_1, .int .i64 a0_2, .int .i64 a0_3, .int .i64 a0_4, .int .i64 a0_5, (.slice A0_6 l0_6.length c0_6)] 70 (0, 0))) ∧ Aside0 (Below w.heap.size w wc))
 case first =>
  have H := HC2.out
  clear HC2
  obtain ⟨y771, hy771⟩ : ∃ y_ : List (S32), y_ = (([(⟨a0_1, a0_2, a0_3, a0_4⟩ : S32)] : List (S32))) := ⟨_, rfl⟩
  replace H : ((impl_areOn.f k l0_0 y771).bind fun t774 => (if t774 = true then ((impl_within.f a0_5 0 a0_3).bind fun t775 => (if t775 = true then (impl_IsArena.j0 k (decide ((l0_6.length : Int) > 8)) l0_0 a0_1 a0_2 a0_3 a0_4 a0_5 l0_6) else (impl_IsArena.j0 k true l0_0 a0_1 a0_2 a0_3 a0_4 a0_5 l0_6))) else (impl_IsArena.j0 k true l0_0 a0_1 a0_2 a0_3 a0_4 a0_5 l0_6))) = some r := by first | (rw [hy771]; with_reducible exact H) | (have H2_ := (Option.bind_some _ _).symm.trans H; rw [hy771]; with_reducible exact H2_) | (have H2_ := (Option.bind_some _ _).symm.trans H; with_reducible exact H2_) | with_reducible exact H | (rw [hy771]; exact H) | exact H
  have Ny771 := Aside0.mk hy771
  clear hy771
  replace H := Option.bind_eq_some_iff.mp H
  obtain ⟨t774, A40, H⟩ := H
  replace H : (if t774 = true then ((impl_within.f a0_5 0 a0_3).bind fun t775 => (if t775 = true then (impl_IsArena.j0 k (decide ((l0_6.length : Int) > 8)) l0_0 a0_1 a0_2 a0_3 a0_4 a0_5 l0_6) else (impl_IsArena.j0 k true l0_0 a0_1 a0_2 a0_3 a0_4 a0_5 l0_6))) else (impl_IsArena.j0 k true l0_0 a0_1 a0_2 a0_3 a0_4 a0_5 l0_6)) = some r := H
  have A4 := Aside0.mk A40
  clear A40
  by_cases c5 : t774 = true
  ·subst c5
   rw [if_pos rfl] at H
   replace H := Option.bind_eq_some_iff.mp H
   obtain ⟨t775, A60, H⟩ := H
   replace H : (if t775 = true then (impl_IsArena.j0 k (decide ((l0_6.length : Int) > 8)) l0_0 a0_1 a0_2 a0_3 a0_4 a0_5 l0_6) else (impl_IsArena.j0 k true l0_0 a0_1 a0_2 a0_3 a0_4 a0_5 l0_6)) = some r := H
   have A6 := Aside0.mk A60
   clear A60
   by_cases c7 : t775 = true
   ·subst c7
    rw [if_pos rfl] at H
    have H' := Aside0.mk H
    clear H
    obtain ⟨hcz8_0, hcz8_1, hcz8_2, hcz8_3, hcz8_4, hcz8_5, hcz8_6, hfz8_0, hfz8_1, hfz8_2, hfz8_3, hfz8_4, hfz8_5, hfz8_6⟩ := zc7_ BK770
    go_wp2_with (first | ((with_reducible refine gate_dst (N := 7) rfl ?_); (try (refine gate_guard (by rfl) ?_; dsimp only)); refine Kd.R_lit k32 _ 32 ?hg (N := 7) ?hd (xs := ([(⟨a0_1, a0_2, a0_3, a0_4⟩ : S32)] : List (S32))) (inner := [.int .i64 a0_1, .int .i64 a0_2, .int .i64 a0_3, .int .i64 a0_4]) (ok := fun _ => True) (okp := fun _ => True) ?hr ?hp (fun _ hk => hk) trivial (Below.refl _ _) (Nat.le_refl _) (by simp) ?_; (case hd => rfl); (case hg => rfl); (case hr => exact gs_); (case hp => exact (Reps.c4 (show Kd.M k32 _ _ _ (⟨a0_1, a0_2, a0_3, a0_4⟩ : S32) [.int .i64 a0_1, .int .i64 a0_2, .int .i64 a0_3, .int .i64 a0_4] from (k32_mkM _ _ _ (⟨a0_1, a0_2, a0_3, a0_4⟩ : S32) )) (Reps.none _ _))); intro v772 w9 ho10 hb hg_ hnew_; clear hg_ hnew_; (first | rw [← Ny771.out] at ho10 | (simp only [Int.reduceToNat] at ho10; rw [← Ny771.out] at ho10)); have HO773 := Aside0.mk (rL_ ho10 HB); replace BK770 := bB_ BK770 hb; replace HB := Aside0.mk (below_step (by repeat (first | (with_reducible first | exact HB.out | apply ba_ | apply bn_ | apply bd_ | refine bset_ ?_ (by assumption)) | exact HB.out)) hb); clear hb ho10; obtain ⟨Ao11, co11, eo11⟩ := Kd.R_slice HO773.out; subst eo11) | ((with_reducible refine gate_callee (f := 146) rfl ?_); refine goesL_ (some 8) rfl rfl Try.func146 (by kernel_rfl) rfl #[.agg #[.slice A0_0 l0_0.length c0_0], .slice Ao11 y771.length co11] rfl ar_ ?_; (with_reducible refine (impl_areOn.calls k _ _ l0_0 _ _ y771 true _ ?side1 ?side2 ?side3 ?side4 A4.out).mono ?_); (case side1 => exact cS_ (Kd.C_below HR0_0.out HB.out)); (case side2 => exact HC0_0.out); (case side3 => repeat (first | exact (Kd.R_reads' HO773.out).2.2 | (with_reducible refine Kd.C_alloc ?_ _) | (with_reducible refine Kd.C_drewN ?_ _) | (with_reducible refine Kd.C_drew ?_))); (case side4 => exact (Kd.R_reads' HO773.out).2.1); rintro e w12 ⟨rfl, hb⟩; refine ⟨_, rfl, ?_⟩; replace HO773 := Aside0.mk (Kd.R_below (rK_ HO773) hb); replace BK770 := bB_ BK770 hb; replace HB := Aside0.mk (below_step (by repeat (first | (with_reducible first | exact HB.out | apply ba_ | apply bn_ | apply bd_ | refine bset_ ?_ (by assumption)) | exact HB.out)) hb); (try clear hb); (try clear hb2); (try clear hk); (try clear hi); obtain ⟨hcz13_0, hcz13_1, hcz13_2, hcz13_3, hcz13_4, hcz13_5, hcz13_6, hfz13_0, hfz13_1, hfz13_2, hfz13_3, hfz13_4, hfz13_5, hfz13_6⟩ := zc7_ BK770) | (go_at_call 123; (with_reducible refine (impl_within.calls a0_5 0 a0_3 true _ A6.out).mono ?_); rintro e w' ⟨rfl, ⟨nd, rfl⟩⟩))
    go_meet
    case rel => exact ⟨_, (decide ((l0_6.length : Int) > 8)), (by first | rfl | (simp; done) | (simp [*]; done)), H', ⟨by first | omega | exact Nat.le_refl _⟩, ⟨by (with_reducible repeat first | apply kb1_ | apply kb2_ | apply kb3_); exact BK770.out⟩, ⟨by repeat (first | (with_reducible first | exact HB.out | apply below_alloc | apply pw_below_drewN | apply below_drew1 | refine below_set ?_ GE770.out) | exact HB.out)⟩⟩
   ·replace c7 := Bool.eq_false_iff.mpr c7
    subst c7
    rw [if_neg (show ¬ (false = true) by decide)] at H
    have H' := Aside0.mk H
    clear H
    obtain ⟨hcz14_0, hcz14_1, hcz14_2, hcz14_3, hcz14_4, hcz14_5, hcz14_6, hfz14_0, hfz14_1, hfz14_2, hfz14_3, hfz14_4, hfz14_5, hfz14_6⟩ := zc7_ BK770
    go_wp2_with (first | ((with_reducible refine gate_dst (N := 7) rfl ?_); (try (refine gate_guard (by rfl) ?_; dsimp only)); refine Kd.R_lit k32 _ 32 ?hg (N := 7) ?hd (xs := ([(⟨a0_1, a0_2, a0_3, a0_4⟩ : S32)] : List (S32))) (inner := [.int .i64 a0_1, .int .i64 a0_2, .int .i64 a0_3, .int .i64 a0_4]) (ok := fun _ => True) (okp := fun _ => True) ?hr ?hp (fun _ hk => hk) trivial (Below.refl _ _) (Nat.le_refl _) (by simp) ?_; (case hd => rfl); (case hg => rfl); (case hr => exact gs_); (case hp => exact (Reps.c4 (show Kd.M k32 _ _ _ (⟨a0_1, a0_2, a0_3, a0_4⟩ : S32) [.int .i64 a0_1, .int .i64 a0_2, .int .i64 a0_3, .int .i64 a0_4] from (k32_mkM _ _ _ (⟨a0_1, a0_2, a0_3, a0_4⟩ : S32) )) (Reps.none _ _))); intro v772 w15 ho16 hb hg_ hnew_; clear hg_ hnew_; (first | rw [← Ny771.out] at ho16 | (simp only [Int.reduceToNat] at ho16; rw [← Ny771.out] at ho16)); have HO773 := Aside0.mk (rL_ ho16 HB); replace BK770 := bB_ BK770 hb; replace HB := Aside0.mk (below_step (by repeat (first | (with_reducible first | exact HB.out | apply ba_ | apply bn_ | apply bd_ | refine bset_ ?_ (by assumption)) | exact HB.out)) hb); clear hb ho16; obtain ⟨Ao17, co17, eo17⟩ := Kd.R_slice HO773.out; subst eo17) | ((with_reducible refine gate_callee (f := 146) rfl ?_); refine goesL_ (some 8) rfl rfl Try.func146 (by kernel_rfl) rfl #[.agg #[.slice A0_0 l0_0.length c0_0], .slice Ao17 y771.length co17] rfl ar_ ?_; (with_reducible refine (impl_areOn.calls k _ _ l0_0 _ _ y771 true _ ?side1 ?side2 ?side3 ?side4 A4.out).mono ?_); (case side1 => exact cS_ (Kd.C_below HR0_0.out HB.out)); (case side2 => exact HC0_0.out); (case side3 => repeat (first | exact (Kd.R_reads' HO773.out).2.2 | (with_reducible refine Kd.C_alloc ?_ _) | (with_reducible refine Kd.C_drewN ?_ _) | (with_reducible refine Kd.C_drew ?_))); (case side4 => exact (Kd.R_reads' HO773.out).2.1); rintro e w18 ⟨rfl, hb⟩; refine ⟨_, rfl, ?_⟩; replace HO773 := Aside0.mk (Kd.R_below (rK_ HO773) hb); replace BK770 := bB_ BK770 hb; replace HB := Aside0.mk (below_step (by repeat (first | (with_reducible first | exact HB.out | apply ba_ | apply bn_ | apply bd_ | refine bset_ ?_ (by assumption)) | exact HB.out)) hb); (try clear hb); (try clear hb2); (try clear hk); (try clear hi); obtain ⟨hcz19_0, hcz19_1, hcz19_2, hcz19_3, hcz19_4, hcz19_5, hcz19_6, hfz19_0, hfz19_1, hfz19_2, hfz19_3, hfz19_4, hfz19_5, hfz19_6⟩ := zc7_ BK770) | (go_at_call 123; (with_reducible refine (impl_within.calls a0_5 0 a0_3 false _ A6.out).mono ?_); rintro e w' ⟨rfl, ⟨nd, rfl⟩⟩))
    go_meet
    case rel => exact ⟨_, (true), (by first | rfl | (simp; done) | (simp [*]; done)), H', ⟨by first | omega | exact Nat.le_refl _⟩, ⟨by (with_reducible repeat first | apply kb1_ | apply kb2_ | apply kb3_); exact BK770.out⟩, ⟨by repeat (first | (with_reducible first | exact HB.out | apply below_alloc | apply pw_below_drewN | apply below_drew1 | refine below_set ?_ GE770.out) | exact HB.out)⟩⟩
  ·replace c5 := Bool.eq_false_iff.mpr c5
   subst c5
   rw [if_neg (show ¬ (false = true) by decide)] at H
   have H' := Aside0.mk H
   clear H
   obtain ⟨hcz20_0, hcz20_1, hcz20_2, hcz20_3, hcz20_4, hcz20_5, hcz20_6, hfz20_0, hfz20_1, hfz20_2, hfz20_3, hfz20_4, hfz20_5, hfz20_6⟩ := zc7_ BK770
   go_wp2_with (first | ((with_reducible refine gate_dst (N := 7) rfl ?_); (try (refine gate_guard (by rfl) ?_; dsimp only)); refine Kd.R_lit k32 _ 32 ?hg (N := 7) ?hd (xs := ([(⟨a0_1, a0_2, a0_3, a0_4⟩ : S32)] : List (S32))) (inner := [.int .i64 a0_1, .int .i64 a0_2, .int .i64 a0_3, .int .i64 a0_4]) (ok := fun _ => True) (okp := fun _ => True) ?hr ?hp (fun _ hk => hk) trivial (Below.refl _ _) (Nat.le_refl _) (by simp) ?_; (case hd => rfl); (case hg => rfl); (case hr => exact gs_); (case hp => exact (Reps.c4 (show Kd.M k32 _ _ _ (⟨a0_1, a0_2, a0_3, a0_4⟩ : S32) [.int .i64 a0_1, .int .i64 a0_2, .int .i64 a0_3, .int .i64 a0_4] from (k32_mkM _ _ _ (⟨a0_1, a0_2, a0_3, a0_4⟩ : S32) )) (Reps.none _ _))); intro v772 w21 ho22 hb hg_ hnew_; clear hg_ hnew_; (first | rw [← Ny771.out] at ho22 | (simp only [Int.reduceToNat] at ho22; rw [← Ny771.out] at ho22)); have HO773 := Aside0.mk (rL_ ho22 HB); replace BK770 := bB_ BK770 hb; replace HB := Aside0.mk (below_step (by repeat (first | (with_reducible first | exact HB.out | apply ba_ | apply bn_ | apply bd_ | refine bset_ ?_ (by assumption)) | exact HB.out)) hb); clear hb ho22; obtain ⟨Ao23, co23, eo23⟩ := Kd.R_slice HO773.out; subst eo23) | ((with_reducible refine gate_callee (f := 146) rfl ?_); refine goesL_ (some 8) rfl rfl Try.func146 (by kernel_rfl) rfl #[.agg #[.slice A0_0 l0_0.length c0_0], .slice Ao23 y771.length co23] rfl ar_ ?_; (with_reducible refine (impl_areOn.calls k _ _ l0_0 _ _ y771 false _ ?side1 ?side2 ?side3 ?side4 A4.out).mono ?_); (case side1 => exact cS_ (Kd.C_below HR0_0.out HB.out)); (case side2 => exact HC0_0.out); (case side3 => repeat (first | exact (Kd.R_reads' HO773.out).2.2 | (with_reducible refine Kd.C_alloc ?_ _) | (with_reducible refine Kd.C_drewN ?_ _) | (with_reducible refine Kd.C_drew ?_))); (case side4 => exact (Kd.R_reads' HO773.out).2.1); rintro e w24 ⟨rfl, hb⟩; refine ⟨_, rfl, ?_⟩; replace HO773 := Aside0.mk (Kd.R_below (rK_ HO773) hb); replace BK770 := bB_ BK770 hb; replace HB := Aside0.mk (below_step (by repeat (first | (with_reducible first | exact HB.out | apply ba_ | apply bn_ | apply bd_ | refine bset_ ?_ (by assumption)) | exact HB.out)) hb); (try clear hb); (try clear hb2); (try clear hk); (try clear hi)))
   go_meet
   case rel => exact ⟨_, (true), (by first | rfl | (simp; done) | (simp [*]; done)), H', ⟨by first | omega | exact Nat.le_refl _⟩, ⟨by (with_reducible repeat first | apply kb1_ | apply kb2_ | apply kb3_); exact BK770.out⟩, ⟨by repeat (first | (with_reducible first | exact HB.out | apply below_alloc | apply pw_below_drewN | apply below_drew1 | refine below_set ?_ GE770.out) | exact HB.out)⟩⟩
 case rest =>
  clear HC2
  try clear c1
  try clear p2
  try clear c4
  try clear c5
  try clear c7
  try clear c14
  try clear c15
  try clear hcz13_0
  try clear hcz13_1
  try clear hcz13_2
  try clear hcz13_3
  try clear hcz13_4
  try clear hcz13_5
  try clear hcz13_6
  try clear hcz14_0
  try clear hcz14_1
  try clear hcz14_2
  try clear hcz14_3
  try clear hcz14_4
  try clear hcz14_5
  try clear hcz14_6
  try clear hcz19_0
  try clear hcz19_1
  try clear hcz19_2
  try clear hcz19_3
  try clear hcz19_4
  try clear hcz19_5
  try clear hcz19_6
  try clear hcz20_0
  try clear hcz20_1
  try clear hcz20_2
  try clear hcz20_3
  try clear hcz20_4
  try clear hcz20_5
  try clear hcz20_6
  try clear hcz8_0
  try clear hcz8_1
  try clear hcz8_2
  try clear hcz8_3
  try clear hcz8_4
  try clear hcz8_5
  try clear hcz8_6
  try clear hfz13_0
  try clear hfz13_1
  try clear hfz13_2
  try clear hfz13_3
  try clear hfz13_4
  try clear hfz13_5
  try clear hfz13_6
  try clear hfz14_0
  try clear hfz14_1
  try clear hfz14_2
  try clear hfz14_3
  try clear hfz14_4
  try clear hfz14_5
  try clear hfz14_6
  try clear hfz19_0
  try clear hfz19_1
  try clear hfz19_2
  try clear hfz19_3
  try clear hfz19_4
  try clear hfz19_5
  try clear hfz19_6
  try clear hfz20_0
  try clear hfz20_1
  try clear hfz20_2
  try clear hfz20_3
  try clear hfz20_4
  try clear hfz20_5
  try clear hfz20_6
  try clear hfz8_0
  try clear hfz8_1
  try clear hfz8_2
  try clear hfz8_3
  try clear hfz8_4
  try clear hfz8_5
  try clear hfz8_6
  obtain ⟨kq, x24_1, rfl, HA, HJ1, BK770, HB⟩ := hcut
  cases kq with
  | zero => exact absurd HA.out (by simp [impl_IsArena.j0])
  | succ kj1 =>
   have H := HA.out
   clear HA
   simp only [impl_IsArena.j0] at H
   by_cases c25 : x24_1 = true
   ·subst c25
    rw [if_pos rfl] at H
    obtain rfl := Option.some.inj H
    go_wp2
    go_ret
    exact ⟨er_, by repeat (first | (with_reducible first | exact HB.out | apply below_alloc | apply pw_below_drewN | apply below_drew1 | refine below_set ?_ GE770.out) | exact HB.out)⟩
   ·replace c25 := Bool.eq_false_iff.mpr c25
    subst c25
    rw [if_neg (show ¬ (false = true) by decide)] at H
    replace H := Option.bind_eq_some_iff.mp H
    obtain ⟨t776, A260, H⟩ := H
    replace H : (if t776 = true then ((slices_IsSorted_int_int.f kj1 l0_6).bind fun t777 => (some t777)) else (some false)) = some r := H
    have A26 := Aside0.mk A260
    clear A260
    by_cases c27 : t776 = true
    ·subst c27
     rw [if_pos rfl] at H
     replace H := Option.bind_eq_some_iff.mp H
     obtain ⟨t777, A280, H⟩ := H
     replace H : (some t777) = some r := H
     have A28 := Aside0.mk A280
     clear A280
     obtain rfl := Option.some.inj H
     obtain ⟨hcz29_0, hcz29_1, hcz29_2, hcz29_3, hcz29_4, hcz29_5, hcz29_6, hfz29_0, hfz29_1, hfz29_2, hfz29_3, hfz29_4, hfz29_5, hfz29_6⟩ := zc7_ BK770
     go_wp2_with (first | ((with_reducible refine gate_callee (f := 190) rfl ?_); refine goesL_ (some 29) rfl rfl Try.func190 (by kernel_rfl) rfl #[.slice A0_6 l0_6.length c0_6, .int .i64 0, .int .i64 a0_5] rfl ar_ ?_; (with_reducible refine (impl_allWithin.calls kj1 _ _ l0_6 0 a0_5 true _ ?side1 ?side2 A26.out).mono ?_); (case side1 => exact cS_ (Kd.C_below HR0_6.out HB.out)); (case side2 => exact HC0_6.out); rintro e w' ⟨rfl, ⟨nd, rfl⟩⟩; refine ⟨_, rfl, ?_⟩) | (go_at_call 191; (with_reducible refine (slices_IsSorted_int_int.calls kj1 _ _ l0_6 t777 _ ?side1 ?side2 A28.out).mono ?_); (case side1 => exact cS_ (Kd.C_below HR0_6.out (by repeat (first | (with_reducible first | exact HB.out | apply ba_ | apply bn_ | apply bd_ | refine bset_ ?_ (by assumption)) | exact HB.out)))); (case side2 => exact HC0_6.out); rintro e w' ⟨rfl, ⟨nd, rfl⟩⟩))
     go_ret
     exact ⟨er_, by repeat (first | (with_reducible first | exact HB.out | apply below_alloc | apply pw_below_drewN | apply below_drew1 | refine below_set ?_ GE770.out) | exact HB.out)⟩
    ·replace c27 := Bool.eq_false_iff.mpr c27
     subst c27
     rw [if_neg (show ¬ (false = true) by decide)] at H
     obtain rfl := Option.some.inj H
     obtain ⟨hcz30_0, hcz30_1, hcz30_2, hcz30_3, hcz30_4, hcz30_5, hcz30_6, hfz30_0, hfz30_1, hfz30_2, hfz30_3, hfz30_4, hfz30_5, hfz30_6⟩ := zc7_ BK770
     go_wp2_with (first | ((with_reducible refine gate_callee (f := 190) rfl ?_); refine goesL_ (some 29) rfl rfl Try.func190 (by kernel_rfl) rfl #[.slice A0_6 l0_6.length c0_6, .int .i64 0, .int .i64 a0_5] rfl ar_ ?_; (with_reducible refine (impl_allWithin.calls kj1 _ _ l0_6 0 a0_5 false _ ?side1 ?side2 A26.out).mono ?_); (case side1 => exact cS_ (Kd.C_below HR0_6.out HB.out)); (case side2 => exact HC0_6.out); rintro e w' ⟨rfl, ⟨nd, rfl⟩⟩; refine ⟨_, rfl, ?_⟩))
     go_ret
     exact ⟨er_, by repeat (first | (with_reducible first | exact HB.out | apply below_alloc | apply pw_below_drewN | apply below_drew1 | refine below_set ?_ GE770.out) | exact HB.out)⟩
end Go.Proofs.Ytmkcbbbknbahgaa.P
namespace Go.Proofs.Ytmkcbbbknbahgaa.P
open Go.RowKit Go.Proofs.YtmkcbbbknbahgaaW.PrintWords Go.Proofs.YtmkcbbbknbahgaaW.PrintLast Go.Proofs.YtmkcbbbknbahgaaW.PrintMore
set_option linter.unusedVariables false
set_option linter.unusedSimpArgs false

def askedOk (x : S74) : Bool := decide (0 ≤ x.f0) && (decide (1 ≤ x.f1) && decide (x.f1 ≤ 16))

set_option maxHeartbeats 4000000 in
set_option maxRecDepth 100000 in
theorem impl_isAsked.calls (x : S74) (w : World) :
    Calls Try.prog 155 #[.agg #[.int .i64 x.f0, .int .i64 x.f1]] w fun e w' => e = .returned (.bool (askedOk x)) ∧ Below w.heap.size w w' := by
  have hu2 := Try.underlying74
  have HA := Below.alloc (Below.refl w.heap.size w) (Nat.le_refl _) (.cells #[.int .i64 x.f0, .int .i64 x.f1] 74)
  by_cases h : 0 ≤ x.f0
  · have hd : decide (0 ≤ x.f0) = true := decide_eq_true h
    have hd2 : decide (x.f0 ≥ 0) = true := decide_eq_true h
    have ht := eq_true h
    go_enter Try.func155, Try.ntmps155
    go_wp2_with fail
    refine (impl_within.calls x.f1 1 16 (decide (1 ≤ x.f1) && decide (x.f1 ≤ 16)) _ (impl_within.eq _ _ _)).mono ?_
    rintro e w' ⟨rfl, hb⟩
    have HB := Aside0.mk (below_step HA (by first | exact hb | exact Drawn0.below hb))
    clear hb
    go_wp2
    go_ret
    exact ⟨by unfold askedOk; rw [hd]; rfl, HB.out⟩
  · have hd : decide (0 ≤ x.f0) = false := decide_eq_false h
    have hd2 : decide (x.f0 ≥ 0) = false := decide_eq_false h
    go_enter Try.func155, Try.ntmps155
    go_wp2
    go_ret
    exact ⟨by unfold askedOk; rw [hd]; rfl, HA⟩

set_option maxHeartbeats 4000000 in
set_option maxRecDepth 100000 in
theorem areAsked1_calls (x : S74) (w : World) :
    Calls Try.prog 154 #[.agg #[.int .i64 x.f0, .int .i64 x.f1]] w fun e w' => e = .returned (.bool (!askedOk x)) ∧ Below w.heap.size w w' := by
  have hu2 := Try.underlying74
  go_enter Try.func154, Try.ntmps154
  go_wp2_with fail
  refine (impl_isAsked.calls x _).mono ?_
  rintro e w' ⟨rfl, hb'⟩
  have HB := Aside0.mk hb'
  clear hb'
  go_wp2
  go_ret
  exact ⟨rfl, ((Below.refl _ _).alloc (Nat.le_refl _) _).trans (HB.out.mono (by simp))⟩

set_option maxHeartbeats 4000000 in
set_option maxRecDepth 100000 in
/-- slices.IndexFunc at what is asked: whatever predicate that may lay blocks of its own. -/
theorem indexFuncA_calls (p : S74 → Bool) (fn : Nat) (lb : Array Value) (A0 : Option Addr) (c0 : Nat) (l0 : List S74) (w : World) (hr : Kd.C k74 w A0 l0.length l0)
    (hp : ∀ (x : S74) (W : World), Below w.heap.size w W → Calls Try.prog fn (#[.agg #[.int .i64 x.f0, .int .i64 x.f1]] ++ lb) W fun e w' => e = .returned (.bool (p x)) ∧ Below W.heap.size W w')
    (eg : ∀ args w, (callFunc fn args).run Try.prog w = .ok (.enter fn args) w) :
    Calls Try.prog 192 #[.slice A0 l0.length c0, .func (.func fn) #[] lb] w fun e w' => e = .returned (.int .i64 (idxP p l0 0)) ∧ Below w.heap.size w w' := by
  have hu2 := Try.underlying74
  have HR := Aside0.mk hr
  have hbig := hr.2.1
  clear hr
  go_enter Try.func192, Try.ntmps192
  go_wp2
  go_loopg [5, 8] l0.length (fun gg _ s8 wr => ∃ i : Int, s8 = .int .i64 i ∧ Aside0 (0 ≤ i) ∧ Aside0 (i ≤ l0.length) ∧ Aside0 ((l0.length : Int) - i ≤ gg) ∧ Aside0 (idxP p l0 0 = idxP p (l0.drop i.toNat) i) ∧ Aside0 (Below w.heap.size w wr))
  case atStart => exact ⟨0, rfl, ⟨by omega⟩, ⟨by omega⟩, ⟨by omega⟩, ⟨rfl⟩, ⟨Below.refl _ w⟩⟩
  case round =>
    obtain ⟨i, rfl, H0, H1, HG, HI, HB⟩ := hrel
    by_cases hlt : i < (l0.length : Int)
    · have hd : decide (i < (l0.length : Int)) = true := decide_eq_true hlt
      obtain ⟨ad, e, hx0, hx1⟩ := at_T74 HR.out i H0.out hlt
      cases e
      replace hx0 := (HB.out.cell (World.block_lt_of_cell? w _ hx0)).trans hx0
      replace hx1 := (HB.out.cell (World.block_lt_of_cell? w _ hx1)).trans hx1
      have hcall := hp (rd_T74 l0 i) wr HB.out
      have hstep : idxP p (l0.drop i.toNat) i = if p (rd_T74 l0 i) = true then i else idxP p (l0.drop (i + 1).toNat) (i + 1) := by
        have h0 := H0.out
        have hl : i.toNat < l0.length := by omega
        rw [List.drop_eq_getElem_cons hl, show (i + 1).toNat = i.toNat + 1 by omega]
        show (if p l0[i.toNat] = true then _ else _) = _
        have : rd_T74 l0 i = l0[i.toNat] := by unfold rd_T74; rw [List.getD_eq_getElem?_getD, List.getElem?_eq_getElem hl]; rfl
        rw [this]
      have HS := Aside0.mk hstep
      have q0 : 0 ≤ i := H0.out
      have hw : wrap64 (i + 1) = i + 1 := by unfold wrap64; omega
      have HW := Aside0.mk hw
      have hlti : (i < (l0.length : Int)) = True := eq_true hlt
      have q0' : (0 ≤ i) = True := eq_true q0
      clear hp hstep hw
      cases hq : p (rd_T74 l0 i) with
      | true =>
        rw [hq] at hcall
        have HQ := Aside0.mk hq
        clear hq
        go_wp2_with fail
        refine hcall.mono ?_
        rintro e w' ⟨rfl, hb'⟩
        clear hcall hx0 hx1
        have HB' := Aside0.mk hb'
        clear hb'
        go_wp2
        go_ret
        exact ⟨by rw [HI.out, HS.out, if_pos HQ.out]; rfl, below_step HB.out HB'.out⟩
      | false =>
        rw [hq] at hcall
        have HQ := Aside0.mk hq
        clear hq
        go_wp2_with fail
        refine hcall.mono ?_
        rintro e w' ⟨rfl, hb'⟩
        clear hcall hx0 hx1
        have HB' := Aside0.mk hb'
        clear hb'
        go_wp2
        go_roundg (l0.length - (i + 1).toNat)
        case measure => have := HG.out; omega
        case rel => exact ⟨i + 1, by first | rfl | (rw [HW.out]; rfl), ⟨by omega⟩, ⟨by omega⟩, ⟨by omega⟩, ⟨by rw [HI.out, HS.out, if_neg (by rw [HQ.out]; decide)]⟩, ⟨below_step HB.out HB'.out⟩⟩
    · have hd : decide (i < (l0.length : Int)) = false := decide_eq_false hlt
      go_wp2
      go_ret
      have h0 := H0.out
      have h1 := H1.out
      have : l0.drop i.toNat = [] := List.drop_eq_nil_of_le (by omega)
      exact ⟨by rw [HI.out, this]; rfl, HB.out⟩

set_option maxHeartbeats 4000000 in
set_option maxRecDepth 100000 in
theorem containsFuncA_calls (p : S74 → Bool) (fn : Nat) (lb : Array Value) (A0 : Option Addr) (c0 : Nat) (l0 : List S74) (w : World) (hr : Kd.C k74 w A0 l0.length l0)
    (hp : ∀ (x : S74) (W : World), Below w.heap.size w W → Calls Try.prog fn (#[.agg #[.int .i64 x.f0, .int .i64 x.f1]] ++ lb) W fun e w' => e = .returned (.bool (p x)) ∧ Below W.heap.size W w')
    (eg : ∀ args w, (callFunc fn args).run Try.prog w = .ok (.enter fn args) w) :
    Calls Try.prog 153 #[.slice A0 l0.length c0, .func (.func fn) #[] lb] w fun e w' => e = .returned (.bool (l0.any p)) ∧ Below w.heap.size w w' := by
  have HI := indexFuncA_calls p fn lb A0 c0 l0 w hr hp eg
  have HA := Aside0.mk (idxP_any p l0 0 (by omega))
  clear hp hr eg
  go_enter Try.func153, Try.ntmps153
  go_wp2_with fail
  refine HI.mono ?_
  rintro e w' ⟨rfl, hb'⟩
  clear HI
  have HB' := Aside0.mk hb'
  clear hb'
  go_wp2
  go_ret
  exact ⟨by rw [← HA.out]; rfl, HB'.out⟩

/-- Is the arena valid, and all that is asked for? -/
def impl_areAsked.f (k : Nat) (l0_0 : List (List Int)) (a0_1 : Int) (a0_2 : Int) (a0_3 : Int) (a0_4 : Int) (a0_5 : Int) (l0_6 : List Int) (l1 : List S74) : Option Bool := (impl_IsArena.f k l0_0 a0_1 a0_2 a0_3 a0_4 a0_5 l0_6).bind fun b => some (b && decide ((l1.length : Int) ≤ 6) && l1.all askedOk)

set_option maxHeartbeats 4000000 in
set_option maxRecDepth 100000 in
theorem impl_areAsked.calls (k : Nat) (A0_0 : Option Addr) (c0_0 : Nat) (l0_0 : List (List Int)) (a0_1 : Int) (a0_2 : Int) (a0_3 : Int) (a0_4 : Int) (a0_5 : Int) (A0_6 : Option Addr) (c0_6 : Nat) (l0_6 : List Int) (A1 : Option Addr) (c1 : Nat) (l1 : List S74) (r : Bool) (w : World) (hr0_0 : Kd.C (Kd.slice 5 (Kd.int .u8)) w A0_0 l0_0.length l0_0) (hc0_0 : l0_0.length ≤ c0_0) (hr0_6 : Kd.C (Kd.int .i64) w A0_6 l0_6.length l0_6) (hc0_6 : l0_6.length ≤ c0_6)
    (hr1 : Kd.C k74 w A1 l1.length l1) (hc1 : l1.length ≤ c1) (h : impl_areAsked.f k l0_0 a0_1 a0_2 a0_3 a0_4 a0_5 l0_6 l1 = some r) :
    Calls Try.prog 109 #[.agg #[.slice A0_0 l0_0.length c0_0, .int .i64 a0_1, .int .i64 a0_2, .int .i64 a0_3, .int .i64 a0_4, .int .i64 a0_5, .slice A0_6 l0_6.length c0_6], .slice A1 l1.length c1] w fun e w' => e = .returned (.bool r) ∧ Below w.heap.size w w' := by
  have hu1 := Try.underlying70
  unfold impl_areAsked.f at h
  obtain ⟨b, hb, hr⟩ := Option.bind_eq_some_iff.mp h
  have hr := Option.some.inj hr
  clear h
  have HM := Aside0.mk hb
  have HR0 := Aside0.mk hr0_0
  have HC0 := Aside0.mk hc0_0
  have HR6 := Aside0.mk hr0_6
  have HC6 := Aside0.mk hc0_6
  have HR1 := Aside0.mk hr1
  have HA := Below.alloc (Below.refl w.heap.size w) (Nat.le_refl _) (.cells #[.slice A0_0 l0_0.length c0_0, .int .i64 a0_1, .int .i64 a0_2, .int .i64 a0_3, .int .i64 a0_4, .int .i64 a0_5, .slice A0_6 l0_6.length c0_6] 70)
  have HB := Aside0.mk HA
  clear hb hr0_0 hc0_0 hr1 hr0_6 hc0_6 HA
  go_enter Try.func109, Try.ntmps109
  go_wp2_with fail
  refine (impl_IsArena.calls k A0_0 c0_0 l0_0 a0_1 a0_2 a0_3 a0_4 a0_5 A0_6 c0_6 l0_6 b _ (Kd.C_below HR0.out HB.out) HC0.out (Kd.C_below HR6.out HB.out) HC6.out HM.out).mono ?_
  rintro e w2 ⟨rfl, hb2⟩
  have HB2 := Aside0.mk (below_step HB.out hb2)
  clear hb2
  cases b with
  | false =>
    have hr' : r = false := by rw [← hr]; rfl
    subst hr'
    clear hr
    go_wp2
    go_ret
    exact ⟨rfl, HB2.out⟩
  | true =>
    by_cases h6 : (l1.length : Int) ≤ 6
    · have hr' : r = !(l1.any fun x => !askedOk x) := by rw [← hr, all_of_any]; simp [h6]
      subst hr'
      clear hr
      have h6b : decide ((l1.length : Int) ≤ 6) = true := decide_eq_true h6
      go_wp2_with fail
      refine (containsFuncA_calls (fun x => !askedOk x) 154 #[] A1 c1 l1 w2 (Kd.C_below HR1.out HB2.out) (fun x W hW => areAsked1_calls x W) (Go.Proofs.enters_of Try.func154 (by kernel_rfl) rfl)).mono ?_
      rintro e w5 ⟨rfl, hb5⟩
      have HB6 := Aside0.mk (below_step HB2.out hb5)
      clear hb5
      go_wp2
      go_ret
      exact ⟨rfl, HB6.out⟩
    · have hr' : r = false := by rw [← hr]; simp [h6]
      subst hr'
      clear hr
      have h6b : decide ((l1.length : Int) ≤ 6) = false := decide_eq_false h6
      go_wp2
      go_ret
      exact ⟨rfl, HB2.out⟩
end Go.Proofs.Ytmkcbbbknbahgaa.P
namespace Go.Proofs.Ytmkcbbbknbahgaa.P
open Go.RowKit Go.Proofs.YtmkcbbbknbahgaaW.PrintWords Go.Proofs.YtmkcbbbknbahgaaW.PrintLast Go.Proofs.YtmkcbbbknbahgaaW.PrintMore
attribute [local go_sem] max2_int min2_int max_two min_two max_three min_three max_four min_four   -- for this text's walks alone
set_option linter.unusedVariables false
set_option linter.unusedSimpArgs false

def impl_Window_part.f (a0_0 : Int) (a0_1 : Int) (a0_2 : Int) (a0_3 : Int) (a1 : Int) (a2 : Int) : Option (Int × Int × Int × Int) := some (a0_0, wrap64 (a0_1 + a1), a2, a2)

set_option maxHeartbeats 8000000 in
set_option maxRecDepth 100000 in
theorem impl_Window_part.calls (a0_0 : Int) (a0_1 : Int) (a0_2 : Int) (a0_3 : Int) (a1 : Int) (a2 : Int) (r1 : Int) (r2 : Int) (r3 : Int) (r4 : Int) (w : World) (h : impl_Window_part.f a0_0 a0_1 a0_2 a0_3 a1 a2 = some (r1, r2, r3, r4)) :
  Calls Try.prog 159 #[.agg #[.int .i64 a0_0, .int .i64 a0_1, .int .i64 a0_2, .int .i64 a0_3], .int .i64 a1, .int .i64 a2] w fun e w' => e = .returned (.agg #[.int .i64 r1, .int .i64 r2, .int .i64 r3, .int .i64 r4]) ∧ Below w.heap.size w w' := by
 have hu32 := Try.underlying32
 have HB := Aside0.mk (Below.refl w.heap.size w)
 have H : (some (a0_0, wrap64 (a0_1 + a1), a2, a2)) = some (r1, r2, r3, r4) := h
 clear h
 simp only [Option.some.injEq, Prod.mk.injEq] at H
 obtain ⟨rfl, rfl, rfl, rfl⟩ := H
 go_enter Try.func159, Try.ntmps159
 go_wp2_with (first | ((with_reducible refine gate_dst (N := 3) rfl ?_); refine box_event ?hg (N := 3) ?hd (cs := #[.int .i64 a0_0, .int .i64 a0_1, .int .i64 a0_2, .int .i64 a0_3]) (t := 32) ?hr ?_; (case hd => rfl); (case hg => rfl); (case hr => exact gs_); intro gb786 hg w4 hbox hb; have BK786 := Aside0.mk (hbox); have GW786 := gE_ HB hg; have GE786 := gE_ HB hg; replace HB := Aside0.mk (below_step (by repeat (first | (with_reducible first | exact HB.out | apply ba_ | apply bn_ | apply bd_) | exact HB.out)) hb); clear hb hbox hg) | ((with_reducible refine gate_dst (N := 6) rfl ?_); refine box_event ?hg (N := 6) ?hd (cs := #[.int .i64 0, .int .i64 0, .int .i64 0, .int .i64 0]) (t := 32) ?hr ?_; (case hd => rfl); (case hg => rfl); (case hr => exact gs_); intro gb787 hg w5 hbox hb; have BK787 := Aside0.mk (hbox); have GW787 := gE_ HB hg; have GE787 := gE_ HB hg; replace HB := Aside0.mk (below_step (by repeat (first | (with_reducible first | exact HB.out | apply ba_ | apply bn_ | apply bd_ | refine bset_ ?_ (by assumption)) | exact HB.out)) hb); have NB786_787 := nB_ BK786 hg; have NB787_786 := nA_ BK786 hg; replace BK786 := bB_ BK786 hb; clear hb hbox hg; have hnb6 := NB786_787.out; have hnc6 := NB787_786.out; obtain ⟨hcz7_0, hcz7_1, hcz7_2, hcz7_3, hfz7_0, hfz7_1, hfz7_2, hfz7_3⟩ := zc4_ BK786; obtain ⟨hcz8_0, hcz8_1, hcz8_2, hcz8_3, hfz8_0, hfz8_1, hfz8_2, hfz8_3⟩ := zc4_ BK787))
 refine bodyPost_ret (results_cell_row rfl _ _ gb787 32 #[.int .i64 a0_0, .int .i64 (wrap64 (a0_1 + a1)), .int .i64 a2, .int .i64 a2] (0, 0) _ rfl (by exact fB_ BK787) Try.underlying32 rfl (by kernel_rfl)) rfl ?_
 exact ⟨er_, by repeat (first | (with_reducible first | exact HB.out | apply below_alloc | apply pw_below_drewN | apply below_drew1 | refine below_set ?_ GE786.out | refine below_set ?_ GE787.out) | exact HB.out)⟩
end Go.Proofs.Ytmkcbbbknbahgaa.P
namespace Go.Proofs.Ytmkcbbbknbahgaa.P
open Go.RowKit Go.Proofs.YtmkcbbbknbahgaaW.PrintWords Go.Proofs.YtmkcbbbknbahgaaW.PrintLast Go.Proofs.YtmkcbbbknbahgaaW.PrintMore
set_option linter.unusedVariables false
set_option linter.unusedSimpArgs false

/-- Where the next window with an align begins. -/
def beginF (u al : Int) : Int := wrap64 ((wrap64 (Int.tdiv (wrap64 ((wrap64 (u + al)) - 1)) al)) * al)

set_option maxHeartbeats 4000000 in
set_option maxRecDepth 100000 in
theorem begin_at (A0 : Option Addr) (n0 c0 : Nat) (a1 a2 a3 a4 a5 : Int) (A6 : Option Addr) (n6 c6 : Nat) (q1 : Int) (hq : q1 ≠ 0) (w : World) :
    Calls Try.prog 193 #[.agg #[(.slice A0 n0 c0), (.int .i64 a1), (.int .i64 a2), (.int .i64 a3), (.int .i64 a4), (.int .i64 a5), (.slice A6 n6 c6)], .int .i64 q1] w fun e w' => e = .returned (.int .i64 (beginF a5 q1)) ∧ Below w.heap.size w w' := by
  have hu1 := Try.underlying70
  have HA := Below.alloc (Below.refl w.heap.size w) (Nat.le_refl _) (.cells #[(.slice A0 n0 c0), (.int .i64 a1), (.int .i64 a2), (.int .i64 a3), (.int .i64 a4), (.int .i64 a5), (.slice A6 n6 c6)] 70)
  have hq0 := eq_false hq
  have hd : decide (q1 = 0) = false := decide_eq_false hq
  go_enter Try.func193, Try.ntmps193
  go_wp2
  go_ret
  exact ⟨rfl, HA⟩

set_option maxHeartbeats 8000000 in
set_option maxRecDepth 100000 in
theorem give_no (g : Nat) (A0 : Option Addr) (n0 c0 : Nat) (a1 a2 a3 a4 a5 : Int) (A6 : Option Addr) (n6 c6 : Nat) (q0 q1 : Int) (hq : q1 ≠ 0) (hno : q0 > wrap64 (a3 - beginF a5 q1)) (w : World) (hb : w.heap[g]? = some (.cells #[(.slice A0 n0 c0), (.int .i64 a1), (.int .i64 a2), (.int .i64 a3), (.int .i64 a4), (.int .i64 a5), (.slice A6 n6 c6)] 70 (0, 0))) :
    Calls Try.prog 157 #[.pointer (some ⟨g, 0, none⟩), .agg #[.int .i64 q0, .int .i64 q1]] w fun e w' => e = .returned (.tuple #[.agg #[.int .i64 0, .int .i64 0, .int .i64 0, .int .i64 0], .bool false]) ∧ Below w.heap.size w w' := by
  have hu1 := Try.underlying70
  have hu2 := Try.underlying74
  have hu3 := Try.underlying32
  have hgl := blk_lt hb
  have HA1 := Below.alloc (Below.refl w.heap.size w) (Nat.le_refl _) (.cells #[.int .i64 q0, .int .i64 q1] 74)
  have HA2 := Below.alloc (Below.refl (w.alloc (.cells #[.int .i64 q0, .int .i64 q1] 74)).heap.size (w.alloc (.cells #[.int .i64 q0, .int .i64 q1] 74))) (Nat.le_refl _) (.cells #[.int .i64 0, .int .i64 0, .int .i64 0, .int .i64 0] 32)
  have HB := Aside0.mk (below_step HA1 HA2)
  have BKg := Aside0.mk (blk_below hb HB.out)
  have BK3 := Aside0.mk (blk_below (heap_alloc_new w (.cells #[.int .i64 q0, .int .i64 q1] 74)) HA2)
  have BK4 := Aside0.mk (heap_alloc_new (w.alloc (.cells #[.int .i64 q0, .int .i64 q1] 74)) (.cells #[.int .i64 0, .int .i64 0, .int .i64 0, .int .i64 0] 32))
  have Z1 := Aside0.mk (show w.heap.size + 2 ≤ ((w.alloc (.cells #[.int .i64 q0, .int .i64 q1] 74)).alloc (.cells #[.int .i64 0, .int .i64 0, .int .i64 0, .int .i64 0] 32)).heap.size by simp)
  have HG := Aside0.mk hgl
  rw [show (w.alloc (.cells #[.int .i64 q0, .int .i64 q1] 74)).heap.size = w.heap.size + 1 by simp] at *
  clear HA1 HA2 hb
  go_enter Try.func157, Try.ntmps157
  go_wp2_with fail
  clear hgl
  refine start_ (n := 7) (S := fun w' => w'.cell? ⟨g, 0, none⟩ = some (.slice A0 n0 c0) ∧ w'.cell? ⟨g, 1, none⟩ = some (.int .i64 a1) ∧ w'.cell? ⟨g, 2, none⟩ = some (.int .i64 a2) ∧ w'.cell? ⟨g, 3, none⟩ = some (.int .i64 a3) ∧ w'.cell? ⟨g, 4, none⟩ = some (.int .i64 a4) ∧ w'.cell? ⟨g, 5, none⟩ = some (.int .i64 a5) ∧ w'.cell? ⟨g, 6, none⟩ = some (.slice A6 n6 c6) ∧ w'.cell? ⟨w.heap.size, 1, none⟩ = some (.int .i64 q1)) (ds := []) #[false, false, false, false, false, false, false] (by kernel_rfl) rfl rfl ⟨(blk_cell BKg.out 0).trans rfl, (blk_cell BKg.out 1).trans rfl, (blk_cell BKg.out 2).trans rfl, (blk_cell BKg.out 3).trans rfl, (blk_cell BKg.out 4).trans rfl, (blk_cell BKg.out 5).trans rfl, (blk_cell BKg.out 6).trans rfl, (blk_cell BK3.out 1).trans rfl⟩ (fun hHeld => ?_)
  replace BKg := Aside0.mk (blk_drew BKg.out)
  replace BK3 := Aside0.mk (blk_drew BK3.out)
  replace BK4 := Aside0.mk (blk_drew BK4.out)
  replace HB := Aside0.mk (below_drew1 HB.out)
  replace Z1 := Aside0.mk (show w.heap.size + 2 ≤ ((w.alloc (.cells #[.int .i64 q0, .int .i64 q1] 74)).alloc (.cells #[.int .i64 0, .int .i64 0, .int .i64 0, .int .i64 0] 32)).drew.heap.size from Z1.out)
  generalize ((w.alloc (.cells #[.int .i64 q0, .int .i64 q1] 74)).alloc (.cells #[.int .i64 0, .int .i64 0, .int .i64 0, .int .i64 0] 32)).drew = w4 at BKg BK3 BK4 HB Z1 hHeld ⊢
  refine pure_ (i := 0) (N := some 7) (v := ?_) (a' := ?_) #[true, false, false, false, false, false, false] rfl rfl (by kernel_rfl) (fun _ _ _ h => h) (Or.inl ⟨by rfl, ?_⟩) ?_ ?_
  rotate_left
  · intro w'
    go_simp
    with_reducible rfl
  rotate_left
  · simp only [Act.put, List.setIfInBounds_toArray, List.set_cons_zero, List.set_cons_succ, i64_w, i32_w]
    rfl
  refine pure_ (i := 1) (N := some 8) (v := ?_) (a' := ?_) #[true, true, false, false, false, false, false] rfl rfl (by kernel_rfl) (fun _ _ _ h => h) (Or.inl ⟨by rfl, ?_⟩) ?_ ?_
  rotate_left
  · intro w'
    go_simp
    with_reducible rfl
  rotate_left
  · simp only [Act.put, List.setIfInBounds_toArray, List.set_cons_zero, List.set_cons_succ, i64_w, i32_w]
    rfl
  refine take_ (i := 2) (N := some 9) (v := ?_) (a' := ?_) #[true, true, true, false, false, false, false] rfl rfl (by kernel_rfl) (fun _ _ _ h => h) (Or.inl ⟨by rfl, ?_⟩) hHeld ?_ ?_
  rotate_left
  · rintro w' ⟨s0, s1, s2, s3, s4, s5, s6, s7⟩
    go_simp
    with_reducible rfl
  rotate_left
  · simp only [Act.put, List.setIfInBounds_toArray, List.set_cons_zero, List.set_cons_succ, i64_w, i32_w]
    rfl
  refine pure_ (i := 3) (N := some 10) (v := ?_) (a' := ?_) #[true, true, true, true, false, false, false] rfl rfl (by kernel_rfl) (fun _ _ _ h => h) (Or.inl ⟨by rfl, ?_⟩) ?_ ?_
  rotate_left
  · intro w'
    go_simp
    with_reducible rfl
  rotate_left
  · simp only [Act.put, List.setIfInBounds_toArray, List.set_cons_zero, List.set_cons_succ, i64_w, i32_w]
    rfl
  refine take_ (i := 4) (N := some 11) (v := ?_) (a' := ?_) #[true, true, true, true, true, false, false] rfl rfl (by kernel_rfl) (fun _ _ _ h => h) (Or.inl ⟨by rfl, ?_⟩) hHeld ?_ ?_
  rotate_left
  · rintro w' ⟨s0, s1, s2, s3, s4, s5, s6, s7⟩
    go_simp
    with_reducible rfl
  rotate_left
  · simp only [Act.put, List.setIfInBounds_toArray, List.set_cons_zero, List.set_cons_succ, i64_w, i32_w]
    rfl
  refine one_ (i := 5) (N := some 12) #[true, true, true, true, true, true, false] rfl rfl (by kernel_rfl) (by decide) (fun K hK => ?_)
  refine goes_ Try.func193 (by kernel_rfl) rfl #[.agg #[(.slice A0 n0 c0), (.int .i64 a1), (.int .i64 a2), (.int .i64 a3), (.int .i64 a4), (.int .i64 a5), (.slice A6 n6 c6)], .int .i64 q1] (by rfl) rfl rfl (by (try simp only [List.map_toArray, List.map_cons, List.map_nil]); first | done | rfl) ?_
  refine (begin_at A0 n0 c0 a1 a2 a3 a4 a5 A6 n6 c6 q1 hq w4).mono ?_
  rintro e w5 ⟨rfl, hb⟩
  refine ⟨_, rfl, ?_⟩
  replace BKg := Aside0.mk (blk_below BKg.out hb)
  replace BK3 := Aside0.mk (blk_below BK3.out hb)
  replace BK4 := Aside0.mk (blk_below BK4.out hb)
  replace HB := Aside0.mk (below_step HB.out hb)
  have Z2 := Aside0.mk (below_size hb)
  clear hb
  refine hK.out _ _ ⟨(blk_cell BKg.out 0).trans rfl, (blk_cell BKg.out 1).trans rfl, (blk_cell BKg.out 2).trans rfl, (blk_cell BKg.out 3).trans rfl, (blk_cell BKg.out 4).trans rfl, (blk_cell BKg.out 5).trans rfl, (blk_cell BKg.out 6).trans rfl, (blk_cell BK3.out 1).trans rfl⟩ (fun hHeld => ?_)
  clear hK K
  refine norm_ (a' := ?_) ?_ ?_
  rotate_left
  · show Act.put _ (some 12) _ = _
    simp only [Act.put, List.setIfInBounds_toArray, List.set_cons_zero, List.set_cons_succ, i64_w, i32_w]
    rfl
  refine pure_ (i := 6) (N := some 6) (v := ?_) (a' := ?_) #[true, true, true, true, true, true, true] rfl rfl (by kernel_rfl) (fun _ _ _ h => h) (Or.inl ⟨by rfl, ?_⟩) ?_ ?_
  rotate_left
  · intro w'
    go_simp
    with_reducible rfl
  rotate_left
  · simp only [Act.put, List.setIfInBounds_toArray, List.set_cons_zero, List.set_cons_succ, i64_w, i32_w]
    rfl
  refine done_ (by kernel_rfl) ?_
  clear hHeld
  have hd : decide (q0 > wrap64 (a3 - beginF a5 q1)) = true := decide_eq_true hno
  have y0 : w5.cell? ⟨g, 3, none⟩ = some (.int .i64 a3) := (blk_cell BKg.out 3).trans rfl
  have y1 : w5.cell? ⟨w.heap.size, 0, none⟩ = some (.int .i64 q0) := (blk_cell BK3.out 0).trans rfl
  go_wp2_with fail
  go_quiet (fail)
  clear y0 y1
  have z0 : w5.cell? ⟨w.heap.size + 1, 0, none⟩ = some (.int .i64 0) := (blk_cell BK4.out 0).trans rfl
  have z1 : w5.cell? ⟨w.heap.size + 1, 1, none⟩ = some (.int .i64 0) := (blk_cell BK4.out 1).trans rfl
  have z2 : w5.cell? ⟨w.heap.size + 1, 2, none⟩ = some (.int .i64 0) := (blk_cell BK4.out 2).trans rfl
  have z3 : w5.cell? ⟨w.heap.size + 1, 3, none⟩ = some (.int .i64 0) := (blk_cell BK4.out 3).trans rfl
  have zf0 := blk_frozen BK4.out 0
  have zf1 := blk_frozen BK4.out 1
  have zf2 := blk_frozen BK4.out 2
  have zf3 := blk_frozen BK4.out 3
  have zl := blk_lt BK4.out
  go_wp2_with fail
  refine bodyPost_ret (results_ct rfl _ _ (w.heap.size + 1) 32 #[.int .i64 0, .int .i64 0, .int .i64 0, .int .i64 0] (0, 0) _ rfl (by (with_reducible repeat (first | refine blk_drewN ?_ _ | refine blk_drew ?_ | refine blk_alloc ?_ _)); refine blk_put (cs := #[(.int .i64 0), (.int .i64 0), (.int .i64 0), (.int .i64 0)]) ?_ 3 _ rfl; (with_reducible repeat (first | refine blk_drewN ?_ _ | refine blk_drew ?_ | refine blk_alloc ?_ _)); refine blk_put (cs := #[(.int .i64 0), (.int .i64 0), (.int .i64 0), (.int .i64 0)]) ?_ 2 _ rfl; (with_reducible repeat (first | refine blk_drewN ?_ _ | refine blk_drew ?_ | refine blk_alloc ?_ _)); refine blk_put (cs := #[(.int .i64 0), (.int .i64 0), (.int .i64 0), (.int .i64 0)]) ?_ 1 _ rfl; (with_reducible repeat (first | refine blk_drewN ?_ _ | refine blk_drew ?_ | refine blk_alloc ?_ _)); refine blk_put (cs := #[(.int .i64 0), (.int .i64 0), (.int .i64 0), (.int .i64 0)]) ?_ 0 _ rfl; (with_reducible repeat (first | refine blk_drewN ?_ _ | refine blk_drew ?_ | refine blk_alloc ?_ _)); exact BK4.out) Try.underlying32 rfl (by kernel_rfl)) rfl ?_
  exact ⟨rfl, by repeat (first | (with_reducible first | exact HB.out | refine below_set ?_ (Nat.le_succ _) | apply below_alloc | apply pw_below_drewN | apply below_drew1) | exact HB.out)⟩

theorem grown_below {w w' : World} (hb : Below w.heap.size w w') : w.grownBy w' none := ⟨hb.os, hb.tape, hb.output, below_size hb, fun k hk _ => hb.block k hk⟩

theorem grown_but {w w' : World} (h : w.grownBy w' none) (row : Option Nat) : w.grownBy w' row := ⟨h.os, h.tape, h.output, h.size, fun i hi _ => h.block i hi (by simp)⟩

set_option maxHeartbeats 8000000 in
set_option maxRecDepth 100000 in
theorem give_yes (g : Nat) (A0 : Option Addr) (n0 c0 : Nat) (a1 a2 a3 a4 a5 : Int) (A6 : Option Addr) (n6 c6 : Nat) (q0 q1 : Int) (hq : q1 ≠ 0) (hyes : ¬ q0 > wrap64 (a3 - beginF a5 q1)) (w : World) (hb : w.heap[g]? = some (.cells #[(.slice A0 n0 c0), (.int .i64 a1), (.int .i64 a2), (.int .i64 a3), (.int .i64 a4), (.int .i64 a5), (.slice A6 n6 c6)] 70 (0, 0))) :
    Calls Try.prog 157 #[.pointer (some ⟨g, 0, none⟩), .agg #[.int .i64 q0, .int .i64 q1]] w fun e w' => e = .returned (.tuple #[.agg #[.int .i64 a1, .int .i64 (wrap64 (a2 + beginF a5 q1)), .int .i64 q0, .int .i64 q0], .bool true]) ∧ w'.heap[g]? = some (.cells #[(.slice A0 n0 c0), (.int .i64 a1), (.int .i64 a2), (.int .i64 a3), (.int .i64 a4), (.int .i64 (wrap64 (beginF a5 q1 + q0))), (.slice A6 n6 c6)] 70 (0, 0)) ∧ w.grownBy w' (some g) := by
  have hu1 := Try.underlying70
  have hu2 := Try.underlying74
  have hu3 := Try.underlying32
  have hgl := blk_lt hb
  have HA1 := Below.alloc (Below.refl w.heap.size w) (Nat.le_refl _) (.cells #[.int .i64 q0, .int .i64 q1] 74)
  have HA2 := Below.alloc (Below.refl (w.alloc (.cells #[.int .i64 q0, .int .i64 q1] 74)).heap.size (w.alloc (.cells #[.int .i64 q0, .int .i64 q1] 74))) (Nat.le_refl _) (.cells #[.int .i64 0, .int .i64 0, .int .i64 0, .int .i64 0] 32)
  have HB := Aside0.mk (below_step HA1 HA2)
  have BKg := Aside0.mk (blk_below hb HB.out)
  have BK3 := Aside0.mk (blk_below (heap_alloc_new w (.cells #[.int .i64 q0, .int .i64 q1] 74)) HA2)
  have BK4 := Aside0.mk (heap_alloc_new (w.alloc (.cells #[.int .i64 q0, .int .i64 q1] 74)) (.cells #[.int .i64 0, .int .i64 0, .int .i64 0, .int .i64 0] 32))
  have Z1 := Aside0.mk (show w.heap.size + 2 ≤ ((w.alloc (.cells #[.int .i64 q0, .int .i64 q1] 74)).alloc (.cells #[.int .i64 0, .int .i64 0, .int .i64 0, .int .i64 0] 32)).heap.size by simp)
  have HG := Aside0.mk hgl
  rw [show (w.alloc (.cells #[.int .i64 q0, .int .i64 q1] 74)).heap.size = w.heap.size + 1 by simp] at *
  clear HA1 HA2 hb
  go_enter Try.func157, Try.ntmps157
  go_wp2_with fail
  clear hgl
  refine start_ (n := 7) (S := fun w' => w'.cell? ⟨g, 0, none⟩ = some (.slice A0 n0 c0) ∧ w'.cell? ⟨g, 1, none⟩ = some (.int .i64 a1) ∧ w'.cell? ⟨g, 2, none⟩ = some (.int .i64 a2) ∧ w'.cell? ⟨g, 3, none⟩ = some (.int .i64 a3) ∧ w'.cell? ⟨g, 4, none⟩ = some (.int .i64 a4) ∧ w'.cell? ⟨g, 5, none⟩ = some (.int .i64 a5) ∧ w'.cell? ⟨g, 6, none⟩ = some (.slice A6 n6 c6) ∧ w'.cell? ⟨w.heap.size, 1, none⟩ = some (.int .i64 q1)) (ds := []) #[false, false, false, false, false, false, false] (by kernel_rfl) rfl rfl ⟨(blk_cell BKg.out 0).trans rfl, (blk_cell BKg.out 1).trans rfl, (blk_cell BKg.out 2).trans rfl, (blk_cell BKg.out 3).trans rfl, (blk_cell BKg.out 4).trans rfl, (blk_cell BKg.out 5).trans rfl, (blk_cell BKg.out 6).trans rfl, (blk_cell BK3.out 1).trans rfl⟩ (fun hHeld => ?_)
  replace BKg := Aside0.mk (blk_drew BKg.out)
  replace BK3 := Aside0.mk (blk_drew BK3.out)
  replace BK4 := Aside0.mk (blk_drew BK4.out)
  replace HB := Aside0.mk (below_drew1 HB.out)
  replace Z1 := Aside0.mk (show w.heap.size + 2 ≤ ((w.alloc (.cells #[.int .i64 q0, .int .i64 q1] 74)).alloc (.cells #[.int .i64 0, .int .i64 0, .int .i64 0, .int .i64 0] 32)).drew.heap.size from Z1.out)
  generalize ((w.alloc (.cells #[.int .i64 q0, .int .i64 q1] 74)).alloc (.cells #[.int .i64 0, .int .i64 0, .int .i64 0, .int .i64 0] 32)).drew = w4 at BKg BK3 BK4 HB Z1 hHeld ⊢
  refine pure_ (i := 0) (N := some 7) (v := ?_) (a' := ?_) #[true, false, false, false, false, false, false] rfl rfl (by kernel_rfl) (fun _ _ _ h => h) (Or.inl ⟨by rfl, ?_⟩) ?_ ?_
  rotate_left
  · intro w'
    go_simp
    with_reducible rfl
  rotate_left
  · simp only [Act.put, List.setIfInBounds_toArray, List.set_cons_zero, List.set_cons_succ, i64_w, i32_w]
    rfl
  refine pure_ (i := 1) (N := some 8) (v := ?_) (a' := ?_) #[true, true, false, false, false, false, false] rfl rfl (by kernel_rfl) (fun _ _ _ h => h) (Or.inl ⟨by rfl, ?_⟩) ?_ ?_
  rotate_left
  · intro w'
    go_simp
    with_reducible rfl
  rotate_left
  · simp only [Act.put, List.setIfInBounds_toArray, List.set_cons_zero, List.set_cons_succ, i64_w, i32_w]
    rfl
  refine take_ (i := 2) (N := some 9) (v := ?_) (a' := ?_) #[true, true, true, false, false, false, false] rfl rfl (by kernel_rfl) (fun _ _ _ h => h) (Or.inl ⟨by rfl, ?_⟩) hHeld ?_ ?_
  rotate_left
  · rintro w' ⟨s0, s1, s2, s3, s4, s5, s6, s7⟩
    go_simp
    with_reducible rfl
  rotate_left
  · simp only [Act.put, List.setIfInBounds_toArray, List.set_cons_zero, List.set_cons_succ, i64_w, i32_w]
    rfl
  refine pure_ (i := 3) (N := some 10) (v := ?_) (a' := ?_) #[true, true, true, true, false, false, false] rfl rfl (by kernel_rfl) (fun _ _ _ h => h) (Or.inl ⟨by rfl, ?_⟩) ?_ ?_
  rotate_left
  · intro w'
    go_simp
    with_reducible rfl
  rotate_left
  · simp only [Act.put, List.setIfInBounds_toArray, List.set_cons_zero, List.set_cons_succ, i64_w, i32_w]
    rfl
  refine take_ (i := 4) (N := some 11) (v := ?_) (a' := ?_) #[true, true, true, true, true, false, false] rfl rfl (by kernel_rfl) (fun _ _ _ h => h) (Or.inl ⟨by rfl, ?_⟩) hHeld ?_ ?_
  rotate_left
  · rintro w' ⟨s0, s1, s2, s3, s4, s5, s6, s7⟩
    go_simp
    with_reducible rfl
  rotate_left
  · simp only [Act.put, List.setIfInBounds_toArray, List.set_cons_zero, List.set_cons_succ, i64_w, i32_w]
    rfl
  refine one_ (i := 5) (N := some 12) #[true, true, true, true, true, true, false] rfl rfl (by kernel_rfl) (by decide) (fun K hK => ?_)
  refine goes_ Try.func193 (by kernel_rfl) rfl #[.agg #[(.slice A0 n0 c0), (.int .i64 a1), (.int .i64 a2), (.int .i64 a3), (.int .i64 a4), (.int .i64 a5), (.slice A6 n6 c6)], .int .i64 q1] (by rfl) rfl rfl (by (try simp only [List.map_toArray, List.map_cons, List.map_nil]); first | done | rfl) ?_
  refine (begin_at A0 n0 c0 a1 a2 a3 a4 a5 A6 n6 c6 q1 hq w4).mono ?_
  rintro e w5 ⟨rfl, hb⟩
  refine ⟨_, rfl, ?_⟩
  replace BKg := Aside0.mk (blk_below BKg.out hb)
  replace BK3 := Aside0.mk (blk_below BK3.out hb)
  replace BK4 := Aside0.mk (blk_below BK4.out hb)
  replace HB := Aside0.mk (below_step HB.out hb)
  have Z2 := Aside0.mk (below_size hb)
  clear hb
  refine hK.out _ _ ⟨(blk_cell BKg.out 0).trans rfl, (blk_cell BKg.out 1).trans rfl, (blk_cell BKg.out 2).trans rfl, (blk_cell BKg.out 3).trans rfl, (blk_cell BKg.out 4).trans rfl, (blk_cell BKg.out 5).trans rfl, (blk_cell BKg.out 6).trans rfl, (blk_cell BK3.out 1).trans rfl⟩ (fun hHeld => ?_)
  clear hK K
  refine norm_ (a' := ?_) ?_ ?_
  rotate_left
  · show Act.put _ (some 12) _ = _
    simp only [Act.put, List.setIfInBounds_toArray, List.set_cons_zero, List.set_cons_succ, i64_w, i32_w]
    rfl
  refine pure_ (i := 6) (N := some 6) (v := ?_) (a' := ?_) #[true, true, true, true, true, true, true] rfl rfl (by kernel_rfl) (fun _ _ _ h => h) (Or.inl ⟨by rfl, ?_⟩) ?_ ?_
  rotate_left
  · intro w'
    go_simp
    with_reducible rfl
  rotate_left
  · simp only [Act.put, List.setIfInBounds_toArray, List.set_cons_zero, List.set_cons_succ, i64_w, i32_w]
    rfl
  refine done_ (by kernel_rfl) ?_
  clear hHeld
  have hd : decide (q0 > wrap64 (a3 - beginF a5 q1)) = false := decide_eq_false (by omega)
  have y0 : w5.cell? ⟨g, 3, none⟩ = some (.int .i64 a3) := (blk_cell BKg.out 3).trans rfl
  have y1 : w5.cell? ⟨w.heap.size, 0, none⟩ = some (.int .i64 q0) := (blk_cell BK3.out 0).trans rfl
  go_wp2_with fail
  go_quiet (fail)
  clear y0 y1
  have y5 : w5.cell? ⟨g, 5, none⟩ = some (.int .i64 a5) := (blk_cell BKg.out 5).trans rfl
  have yf := blk_frozen BKg.out 5
  have y1 : w5.cell? ⟨w.heap.size, 0, none⟩ = some (.int .i64 q0) := (blk_cell BK3.out 0).trans rfl
  have yl := blk_lt BKg.out
  have y3 := blk_lt BK3.out
  have yn1 : g ≠ w.heap.size := Nat.ne_of_lt HG.out
  have yn2 : w.heap.size ≠ g := Nat.ne_of_gt HG.out
  go_wp2_with fail
  replace BKg := Aside0.mk (blk_put (cs' := #[(.slice A0 n0 c0), (.int .i64 a1), (.int .i64 a2), (.int .i64 a3), (.int .i64 a4), (.int .i64 (wrap64 (beginF a5 q1 + q0))), (.slice A6 n6 c6)]) (blk_drewN BKg.out nq) 5 (.int .i64 (wrap64 (beginF a5 q1 + q0))) rfl)
  replace BK3 := Aside0.mk (blk_far (p := ⟨g, 5, none⟩) (blk_drewN BK3.out nq) yn2 (.int .i64 (wrap64 (beginF a5 q1 + q0))))
  replace BK4 := Aside0.mk (blk_far (p := ⟨g, 5, none⟩) (blk_drewN BK4.out nq) (Nat.ne_of_gt (Nat.lt_succ_of_lt HG.out)) (.int .i64 (wrap64 (beginF a5 q1 + q0))))
  have HGr := Aside0.mk (show w.grownBy ((w5.drewN nq).setCell ⟨g, 5, none⟩ (.int .i64 (wrap64 (beginF a5 q1 + q0)))) (some g) from
    (grown_but (grown_below (pw_below_drewN HB.out nq)) (some g)).trans ⟨rfl, rfl, rfl, by simp [World.setCell], fun k _ hne => Below.heap_setCell _ _ _ k (fun e => hne (by rw [e]))⟩)
  have Z5 := Aside0.mk (show w.heap.size + 2 ≤ ((w5.drewN nq).setCell ⟨g, 5, none⟩ (.int .i64 (wrap64 (beginF a5 q1 + q0)))).heap.size by have := Z1.out; have := Z2.out; simp [World.setCell]; omega)
  clear y5 yf y1 yl y3 Z1 Z2 HB
  generalize (w5.drewN nq).setCell ⟨g, 5, none⟩ (.int .i64 (wrap64 (beginF a5 q1 + q0))) = w6 at BKg BK3 BK4 HGr Z5 ⊢
  refine start_ (n := 10) (S := fun w' => w'.cell? ⟨g, 1, none⟩ = some (.int .i64 a1) ∧ w'.cell? ⟨g, 2, none⟩ = some (.int .i64 a2) ∧ w'.cell? ⟨g, 3, none⟩ = some (.int .i64 a3) ∧ w'.cell? ⟨g, 4, none⟩ = some (.int .i64 a4) ∧ w'.cell? ⟨w.heap.size, 0, none⟩ = some (.int .i64 q0)) (ds := [8]) #[false, false, false, false, false, false, false, false, false, false] (by kernel_rfl) rfl rfl ⟨(blk_cell BKg.out 1).trans rfl, (blk_cell BKg.out 2).trans rfl, (blk_cell BKg.out 3).trans rfl, (blk_cell BKg.out 4).trans rfl, (blk_cell BK3.out 0).trans rfl⟩ (fun hHeld => ?_)
  replace BKg := Aside0.mk (blk_drew BKg.out)
  replace BK3 := Aside0.mk (blk_drew BK3.out)
  replace BK4 := Aside0.mk (blk_drew BK4.out)
  replace HGr := Aside0.mk (show w.grownBy w6.drew (some g) from ⟨HGr.out.os, HGr.out.tape, HGr.out.output, HGr.out.size, HGr.out.block⟩)
  replace Z5 := Aside0.mk (show w.heap.size + 2 ≤ w6.drew.heap.size from Z5.out)
  generalize w6.drew = w7 at BKg BK3 BK4 HGr Z5 hHeld ⊢
  refine pure_ (i := 0) (N := some 31) (v := ?_) (a' := ?_) #[true, false, false, false, false, false, false, false, false, false] rfl rfl (by kernel_rfl) (fun _ _ _ h => h) (Or.inl ⟨by rfl, ?_⟩) ?_ ?_
  rotate_left
  · intro w'
    go_simp
    with_reducible rfl
  rotate_left
  · simp only [Act.put, List.setIfInBounds_toArray, List.set_cons_zero, List.set_cons_succ, i64_w, i32_w]
    rfl
  refine pure_ (i := 1) (N := some 32) (v := ?_) (a' := ?_) #[true, true, false, false, false, false, false, false, false, false] rfl rfl (by kernel_rfl) (fun _ _ _ h => h) (Or.inl ⟨by rfl, ?_⟩) ?_ ?_
  rotate_left
  · intro w'
    go_simp
    with_reducible rfl
  rotate_left
  · simp only [Act.put, List.setIfInBounds_toArray, List.set_cons_zero, List.set_cons_succ, i64_w, i32_w]
    rfl
  refine pure_ (i := 2) (N := some 33) (v := ?_) (a' := ?_) #[true, true, true, false, false, false, false, false, false, false] rfl rfl (by kernel_rfl) (fun _ _ _ h => h) (Or.inl ⟨by rfl, ?_⟩) ?_ ?_
  rotate_left
  · intro w'
    go_simp
    with_reducible rfl
  rotate_left
  · simp only [Act.put, List.setIfInBounds_toArray, List.set_cons_zero, List.set_cons_succ, i64_w, i32_w]
    rfl
  refine take_ (i := 3) (N := some 34) (v := ?_) (a' := ?_) #[true, true, true, true, false, false, false, false, false, false] rfl rfl (by kernel_rfl) (fun _ _ _ h => h) (Or.inl ⟨by rfl, ?_⟩) hHeld ?_ ?_
  rotate_left
  · rintro w' ⟨s0, s1, s2, s3, s4⟩
    go_simp
    with_reducible rfl
  rotate_left
  · simp only [Act.put, List.setIfInBounds_toArray, List.set_cons_zero, List.set_cons_succ, i64_w, i32_w]
    rfl
  refine pure_ (i := 4) (N := some 35) (v := ?_) (a' := ?_) #[true, true, true, true, true, false, false, false, false, false] rfl rfl (by kernel_rfl) (fun _ _ _ h => h) (Or.inl ⟨by rfl, ?_⟩) ?_ ?_
  rotate_left
  · intro w'
    go_simp
    with_reducible rfl
  rotate_left
  · simp only [Act.put, List.setIfInBounds_toArray, List.set_cons_zero, List.set_cons_succ, i64_w, i32_w]
    rfl
  refine pure_ (i := 5) (N := some 36) (v := ?_) (a' := ?_) #[true, true, true, true, true, true, false, false, false, false] rfl rfl (by kernel_rfl) (fun _ _ _ h => h) (Or.inl ⟨by rfl, ?_⟩) ?_ ?_
  rotate_left
  · intro w'
    go_simp
    with_reducible rfl
  rotate_left
  · simp only [Act.put, List.setIfInBounds_toArray, List.set_cons_zero, List.set_cons_succ, i64_w, i32_w]
    rfl
  refine take_ (i := 6) (N := some 37) (v := ?_) (a' := ?_) #[true, true, true, true, true, true, true, false, false, false] rfl rfl (by kernel_rfl) (fun _ _ _ h => h) (Or.inl ⟨by rfl, ?_⟩) hHeld ?_ ?_
  rotate_left
  · rintro w' ⟨s0, s1, s2, s3, s4⟩
    go_simp
    with_reducible rfl
  rotate_left
  · simp only [Act.put, List.setIfInBounds_toArray, List.set_cons_zero, List.set_cons_succ, i64_w, i32_w]
    rfl
  refine one_ (i := 7) (N := some 38) #[true, true, true, true, true, true, true, true, false, false] rfl rfl (by kernel_rfl) (by decide) (fun K hK => ?_)
  refine goes_ Try.func159 (by kernel_rfl) rfl #[.agg #[.int .i64 a1, .int .i64 a2, .int .i64 a3, .int .i64 a4], .int .i64 (beginF a5 q1), .int .i64 q0] (by rfl) rfl rfl (by (try simp only [List.map_toArray, List.map_cons, List.map_nil]); first | done | rfl) ?_
  refine (impl_Window_part.calls a1 a2 a3 a4 (beginF a5 q1) q0 a1 (wrap64 (a2 + beginF a5 q1)) q0 q0 w7 rfl).mono ?_
  rintro e w8 ⟨rfl, hb⟩
  refine ⟨_, rfl, ?_⟩
  replace BKg := Aside0.mk (blk_below BKg.out hb)
  replace BK3 := Aside0.mk (blk_below BK3.out hb)
  replace BK4 := Aside0.mk (blk_below BK4.out hb)
  replace HGr := Aside0.mk (HGr.out.trans (grown_but (grown_below hb) (some g)))
  have Z4 := Aside0.mk (below_size hb)
  clear hb
  refine hK.out _ _ ⟨(blk_cell BKg.out 1).trans rfl, (blk_cell BKg.out 2).trans rfl, (blk_cell BKg.out 3).trans rfl, (blk_cell BKg.out 4).trans rfl, (blk_cell BK3.out 0).trans rfl⟩ (fun hHeld => ?_)
  clear hK K
  refine norm_ (a' := ?_) ?_ ?_
  rotate_left
  · show Act.put _ (some 38) _ = _
    simp only [Act.put, List.setIfInBounds_toArray, List.set_cons_zero, List.set_cons_succ, i64_w, i32_w]
    rfl
  have z0 : w8.cell? ⟨w.heap.size + 1, 0, none⟩ = some (.int .i64 0) := (blk_cell BK4.out 0).trans rfl
  have z1 : w8.cell? ⟨w.heap.size + 1, 1, none⟩ = some (.int .i64 0) := (blk_cell BK4.out 1).trans rfl
  have z2 : w8.cell? ⟨w.heap.size + 1, 2, none⟩ = some (.int .i64 0) := (blk_cell BK4.out 2).trans rfl
  have z3 : w8.cell? ⟨w.heap.size + 1, 3, none⟩ = some (.int .i64 0) := (blk_cell BK4.out 3).trans rfl
  have zf0 := blk_frozen BK4.out 0
  have zf1 := blk_frozen BK4.out 1
  have zf2 := blk_frozen BK4.out 2
  have zf3 := blk_frozen BK4.out 3
  have zl := blk_lt BK4.out
  refine last_ (i := 8) (N := none) #[true, true, true, true, true, true, true, true, true, false] rfl rfl (by kernel_rfl) (by decide) (fun K hK => ?_)
  refine skip_ (w1 := ?_) (by rfl) rfl ?_ ?_
  rotate_left
  · go_simp
    rfl
  refine hK.out _ _ ?_
  clear hK K
  refine pure_ (i := 9) (N := some 5) (v := ?_) (a' := ?_) #[true, true, true, true, true, true, true, true, true, true] rfl rfl (by kernel_rfl) (fun _ _ _ h => h) (Or.inl ⟨by rfl, ?_⟩) ?_ ?_
  rotate_left
  · intro w'
    go_simp
    with_reducible rfl
  rotate_left
  · simp only [Act.put, List.setIfInBounds_toArray, List.set_cons_zero, List.set_cons_succ, i64_w, i32_w]
    rfl
  refine done_ (by kernel_rfl) ?_
  go_wp2_with fail
  refine bodyPost_ret (results_ct rfl _ _ (w.heap.size + 1) 32 #[(.int .i64 a1), (.int .i64 (wrap64 (a2 + beginF a5 q1))), (.int .i64 q0), (.int .i64 q0)] (0, 0) _ rfl (by (with_reducible repeat (first | refine blk_drewN ?_ _ | refine blk_drew ?_ | refine blk_alloc ?_ _)); refine blk_put (cs := #[(.int .i64 a1), (.int .i64 (wrap64 (a2 + beginF a5 q1))), (.int .i64 q0), (.int .i64 0)]) ?_ 3 _ rfl; (with_reducible repeat (first | refine blk_drewN ?_ _ | refine blk_drew ?_ | refine blk_alloc ?_ _)); refine blk_put (cs := #[(.int .i64 a1), (.int .i64 (wrap64 (a2 + beginF a5 q1))), (.int .i64 0), (.int .i64 0)]) ?_ 2 _ rfl; (with_reducible repeat (first | refine blk_drewN ?_ _ | refine blk_drew ?_ | refine blk_alloc ?_ _)); refine blk_put (cs := #[(.int .i64 a1), (.int .i64 0), (.int .i64 0), (.int .i64 0)]) ?_ 1 _ rfl; (with_reducible repeat (first | refine blk_drewN ?_ _ | refine blk_drew ?_ | refine blk_alloc ?_ _)); refine blk_put (cs := #[(.int .i64 0), (.int .i64 0), (.int .i64 0), (.int .i64 0)]) ?_ 0 _ rfl; (with_reducible repeat (first | refine blk_drewN ?_ _ | refine blk_drew ?_ | refine blk_alloc ?_ _)); exact BK4.out) Try.underlying32 rfl (by kernel_rfl)) rfl ?_
  have hne := Nat.ne_of_lt (Nat.lt_succ_of_lt HG.out)
  have hst : ∀ (W : World) (j : Nat) (u : Value), w.grownBy W (some g) → w.grownBy (W.setCell ⟨w.heap.size + 1, j, none⟩ u) (some g) := fun W j u hW => ⟨hW.os, hW.tape, hW.output, by have := hW.size; simpa [World.setCell] using this, fun k hk hn => (Below.heap_setCell _ _ _ k (by show k ≠ w.heap.size + 1; omega)).trans (hW.block k hk hn)⟩
  exact ⟨rfl, blk_far (p := ⟨w.heap.size + 1, 3, none⟩) (blk_far (p := ⟨w.heap.size + 1, 2, none⟩) (blk_far (p := ⟨w.heap.size + 1, 1, none⟩) (blk_far (p := ⟨w.heap.size + 1, 0, none⟩) BKg.out hne _) hne _) hne _) hne _, hst _ _ _ (hst _ _ _ (hst _ _ _ (hst _ _ _ HGr.out)))⟩
end Go.Proofs.Ytmkcbbbknbahgaa.P
